/- Proved: what an argument that came in reads as, kind by kind: numbers, bools, strings, structs, slices of these; with what is known of each value, and its bulk. No condition. -/
import Derived.Test.YteoimkgjngdkdaaDoorRows
import Derived.Test.YteoimkgjngdkdaaDoorVcWWords
import Derived.Deep.Slices
import Derived.Deep.Fields
import Derived.ChangeSame
import Derived.ChangeArms
import Derived.OpenShut
namespace Go.Proofs.YteoimkgjngdkdaaDoor.Ext
open Go.RowKit Go.ChangeShapes Go.WideShapes Go.Deep Go.Proofs.YteoimkgjngdkdaaDoorW.PrintWords
/-- What came in as a value of type t reads as some a of kind d, of which wf holds, and whose size is at most the reading's bulk. -/
def Opens {α : Type} (t : TypeId) (d : Kd α) (wf : α → Prop) (sz : α → Nat) : Prop :=
  ∀ (H : Type) (enc : TypeId × Value → H) (w : World) (base : Nat) (spare : Nat → Bool) (held : Bool) (fuel : Nat) (cs : List Value) (x : DataW H × List MemPlace),
    DataW.trod enc Tryd.prog w base spare held fuel t cs = some x → ∃ a, d.K w a cs ∧ wf a ∧ sz a ≤ Rows.uptoBulk x.1
theorem opens_int {t : TypeId} {k : IntKind} (ht : Tryd.prog.underlying t = some (.int k)) : Opens t (Kd.int k) (fun n => (Lit.int k n).wf = true) (fun _ => 1) := by
  intro H enc w base spare held fuel cs x h
  obtain ⟨n, rfl, rfl, hw⟩ := DataW.trod_int ht h
  exact ⟨n, rfl, hw, by simp [Rows.uptoBulk]⟩
theorem opens_bool {t : TypeId} (ht : Tryd.prog.underlying t = some .bool) : Opens t Kd.bool (fun _ => True) (fun _ => 1) := by
  intro H enc w base spare held fuel cs x h
  obtain ⟨b, rfl, rfl⟩ := DataW.trod_bool ht h
  exact ⟨b, rfl, trivial, by simp [Rows.uptoBulk]⟩
theorem opens_string {t : TypeId} (ht : Tryd.prog.underlying t = some .string) : Opens t Kd.string (fun _ => True) (fun s => s.size + 1) := by
  intro H enc w base spare held fuel cs x h
  obtain ⟨s, rfl, rfl, _⟩ := DataW.trod_string ht h
  exact ⟨s, rfl, trivial, by simp [Rows.uptoBulk]⟩
/-- One value for each place. -/
theorem list_of {α : Type} {P : Nat → α → Prop} : ∀ n, (∀ i, i < n → ∃ x, P i x) → ∃ l : List α, l.length = n ∧ ∀ i x, l[i]? = some x → P i x
  | 0, _ => ⟨[], rfl, fun i x h => by simp at h⟩
  | n + 1, h => by
    obtain ⟨l, hl, hp⟩ := list_of n fun i hi => h i (by omega)
    obtain ⟨x, hx⟩ := h n (by omega)
    refine ⟨l ++ [x], by simp [hl], fun i y hy => ?_⟩
    rcases Nat.lt_or_ge i l.length with hi | hi
    · rw [List.getElem?_append_left hi] at hy
      exact hp i y hy
    · have : i = n := by
        have := (List.getElem?_eq_some_iff.1 hy).1
        simp at this
        omega
      subst this
      have e : x = y := by
        rw [← hl] at hy
        simpa using hy
      subst e
      exact hx
theorem bulk_all {H : Type} {α : Type} (sz : α → Nat) : ∀ (l : List α) (D : Nat → DataW H) (o : Nat), (∀ i x, l[i]? = some x → sz x ≤ Rows.uptoBulk (D (o + i))) → (l.map sz).sum ≤ Rows.uptoBulkAll ((List.range' o l.length).map D)
  | [], _, _, _ => Nat.zero_le _
  | x :: l, D, o, h => by
    have h0 := h 0 x rfl
    have ih := bulk_all sz l D (o + 1) fun i y hy => by
      have := h (i + 1) y hy
      rwa [show o + 1 + i = o + (i + 1) by omega]
    simp only [List.map_cons, List.sum_cons, List.length_cons, List.range'_succ, Rows.uptoBulkAll]
    rw [Nat.add_zero] at h0
    omega
theorem opens_slice {α : Type} {t e : TypeId} {d : Kd α} {wf : α → Prop} {sz : α → Nat} (ht : Tryd.prog.underlying t = some (.slice e)) (hc : Tryd.prog.cellsOf e = d.sz) (h : Opens e d wf sz) :
    Opens t (Kd.slice e d) (fun l => ∀ x ∈ l, wf x) (fun l => (l.map sz).sum + 1) := by
  intro H enc w base spare held fuel cs x hx
  rcases open_slice ht hx with ⟨rfl, rfl⟩ | ⟨a, len, cap, m, n, D, Pl, rfl, _, hl, hm, hmm, rfl, hi⟩
  · exact ⟨[], ⟨none, 0, rfl, Nat.le_refl _, rfl, by simp, fun h => absurd h (by simp)⟩, fun x hx => by simp at hx, by simp [Rows.uptoBulk]⟩
  · have hlm : len ≤ m := by rw [hmm]; split <;> omega
    have hmax : len ≤ 9223372036854775807 := by unfold maxLen at hm; omega
    obtain ⟨l, hll, hp⟩ := list_of (P := fun i x => (∃ c, c.length = d.sz ∧ d.K w x c ∧ ∀ j u, c[j]? = some u → w.cell? (a.add (i * d.sz + j)) = some u) ∧ wf x ∧ sz x ≤ Rows.uptoBulk (D i)) len fun i hil => by
      obtain ⟨cs', hcs, ht'⟩ := hi i (by omega)
      rw [hc] at hcs
      obtain ⟨x, hK, hw, hs⟩ := h H enc w base spare held n cs' _ ht'
      obtain ⟨_, hcl, hat⟩ := World.cells?_some hcs
      refine ⟨x, ⟨cs', hcl, hK, fun j u hu => ?_⟩, hw, hs⟩
      have hj : j < d.sz := by
        have := (List.getElem?_eq_some_iff.1 hu).1
        omega
      rw [← Go.Deep.add_add, hat j hj]
      exact hu
    refine ⟨l, ⟨some a, cap, by rw [hll], by omega, rfl, by omega, fun _ => ⟨a, rfl, fun j p hj => (hp j p hj).1⟩⟩, fun x hx => ?_, ?_⟩
    · obtain ⟨i, hi'⟩ := List.mem_iff_getElem?.1 hx
      exact (hp i x hi').2.1
    · have hb := bulk_all sz l D 0 fun i x hx => by
        rw [Nat.zero_add]
        exact (hp i x hx).2.2
      rw [hll, ← List.range_eq_range'] at hb
      simp only [Rows.uptoBulk]
      omega
/-- The fields of a struct from the offset off on. -/
def OpensAt {α : Type} (fs : List Field) (off : Nat) (d : Kd α) (wf : α → Prop) (sz : α → Nat) : Prop :=
  ∀ (H : Type) (enc : TypeId × Value → H) (w : World) (base : Nat) (spare : Nat → Bool) (held : Bool) (fuel : Nat) (cs : List Value) (xs : List (DataW H × List MemPlace)), xs.length = fs.length →
    (∀ (i : Nat) (f : Field), fs[i]? = some f → DataW.trod enc Tryd.prog w base spare held fuel f.type ((cs.drop f.offset).take (Tryd.prog.cellsOf f.type)) = xs[i]?) → cs.length = off + d.sz →
    ∃ a, d.K w a (cs.drop off) ∧ wf a ∧ sz a ≤ Rows.uptoBulkAll (xs.map (·.1))
theorem opensAt_one {α : Type} {f : Field} {off : Nat} {d : Kd α} {wf : α → Prop} {sz : α → Nat} (ho : f.offset = off) (hc : Tryd.prog.cellsOf f.type = d.sz) (h : Opens f.type d wf sz) : OpensAt [f] off d wf sz := by
  intro H enc w base spare held fuel cs xs hl hf hcs
  match xs, hl with
  | [x], _ =>
    have h0 := hf 0 f rfl
    rw [ho, hc, List.take_of_length_le (by simp; omega)] at h0
    obtain ⟨a, h1, h2, h3⟩ := h H enc w base spare held fuel _ x (by simpa using h0)
    exact ⟨a, h1, h2, by simp only [List.map_cons, List.map_nil, Rows.uptoBulkAll]; omega⟩
theorem opensAt_cons {α β : Type} {f : Field} {fs : List Field} {off o2 : Nat} {d : Kd α} {d2 : Kd β} {wf : α → Prop} {wf2 : β → Prop} {sz : α → Nat} {sz2 : β → Nat} (ho : f.offset = off) (hc : Tryd.prog.cellsOf f.type = d.sz)
    (h : Opens f.type d wf sz) (ho2 : o2 = off + d.sz) (h2 : OpensAt fs o2 d2 wf2 sz2) : OpensAt (f :: fs) off (Kd.pair d d2) (fun x => wf x.1 ∧ wf2 x.2) (fun x => sz x.1 + sz2 x.2) := by
  intro H enc w base spare held fuel cs xs hl hf hcs
  match xs, hl with
  | x :: xs, hl =>
    have hcs' : cs.length = off + (d.sz + d2.sz) := hcs
    have h0 := hf 0 f rfl
    rw [ho, hc] at h0
    obtain ⟨a, g1, g2, g3⟩ := h H enc w base spare held fuel _ x (by simpa using h0)
    obtain ⟨b, e1, e2, e3⟩ := h2 H enc w base spare held fuel cs xs (by simpa using hl) (fun i f hi => by simpa using hf (i + 1) f (by simpa using hi)) (by omega)
    refine ⟨(a, b), ⟨_, _, ?_, g1, e1⟩, ⟨g2, e2⟩, by simp only [List.map_cons, Rows.uptoBulkAll]; omega⟩
    rw [ho2, ← List.drop_drop, List.take_append_drop]
theorem opens_struct {α : Type} {t : TypeId} {fs : Array Field} {d : Kd α} {wf : α → Prop} {sz : α → Nat} (ht : Tryd.prog.underlying t = some (.struct fs)) (hc : Tryd.prog.cellsOf t = d.sz) (h : OpensAt fs.toList 0 d wf sz) :
    Opens t d wf (fun a => sz a + 1) := by
  intro H enc w base spare held fuel cs x hx
  obtain ⟨xs, n, rfl, rfl, hl, hlen, hf⟩ := DataW.trod_struct ht hx
  obtain ⟨a, h1, h2, h3⟩ := h H enc w base spare held n cs xs (by simpa using hlen) (fun i f hi => hf i f (by simpa using hi)) (by omega)
  exact ⟨a, by simpa using h1, h2, by simp only [Rows.uptoBulk]; omega⟩
theorem opens_iso {α β : Type} {t : TypeId} {d : Kd α} {wf : α → Prop} {sz : α → Nat} (g : β → α) (hg : ∀ a, ∃ b, g b = a) (h : Opens t d wf sz) : Opens t (Kd.iso d g) (fun b => wf (g b)) (fun b => sz (g b)) := by
  intro H enc w base spare held fuel cs x hx
  obtain ⟨a, h1, h2, h3⟩ := h H enc w base spare held fuel cs x hx
  obtain ⟨b, rfl⟩ := hg a
  exact ⟨b, h1, h2, h3⟩
end Go.Proofs.YteoimkgjngdkdaaDoor.Ext

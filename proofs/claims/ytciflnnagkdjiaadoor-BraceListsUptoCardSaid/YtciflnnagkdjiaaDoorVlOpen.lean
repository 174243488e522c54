/- Proved: what an argument that came in reads as, kind by kind: numbers, bools, strings, structs, slices of these; with what is known of each value, and its bulk. No condition. -/
import Derived.Test.YtciflnnagkdjiaaDoorRows
import Derived.Test.YtciflnnagkdjiaaDoorVlWWords
import Derived.Deep.Slices
import Derived.Deep.Fields
import Derived.ChangeSame
import Derived.ChangeArms
import Derived.OpenShut
namespace Go.Proofs.YtciflnnagkdjiaaDoor.Ext
open Go.RowKit Go.ChangeShapes Go.WideShapes Go.Deep Go.Proofs.YtciflnnagkdjiaaDoorW.PrintWords
/-- What came in as a value of type t reads as some a of kind d, of which wf holds, and whose size is at most the reading's bulk. -/
def Opens {α : Type} (t : TypeId) (d : Kd α) (wf : α → Prop) (sz : α → Nat) : Prop :=
  ∀ (H : Type) (enc : TypeId × Value → H) (w : World) (base : Nat) (spare : Nat → Bool) (held : Bool) (fuel : Nat) (cs : List Value) (x : DataW H × List MemPlace),
    DataW.trod enc Tryd.prog w base spare held fuel t cs = some x → ∃ a, d.K w a cs ∧ wf a ∧ sz a ≤ Rows.uptoBulk x.1
theorem opens_string {t : TypeId} (ht : Tryd.prog.underlying t = some .string) : Opens t Kd.string (fun _ => True) (fun s => s.size + 1) := by
  intro H enc w base spare held fuel cs x h
  obtain ⟨s, rfl, rfl, _⟩ := DataW.trod_string ht h
  exact ⟨s, rfl, trivial, by simp [Rows.uptoBulk]⟩
/-- One value for each place. -/
theorem list_of {α : Type} {P : Nat → α → Prop} : ∀ n, (∀ i, i < n → ∃ x, P i x) → ∃ l : List α, l.length = n ∧ ∀ i x, l[i]? = some x → P i x
  | 0, _ => ⟨[], rfl, fun i x h => by simp at h⟩
  | n + 1, h => by
    obtain ⟨l, hl, hp⟩ := list_of n fun i hi => h i (by omega)
    obtain ⟨x, hx⟩ := h n (by omega)
    refine ⟨l ++ [x], by simp [hl], fun i y hy => ?_⟩
    rcases Nat.lt_or_ge i l.length with hi | hi
    · rw [List.getElem?_append_left hi] at hy
      exact hp i y hy
    · have : i = n := by
        have := (List.getElem?_eq_some_iff.1 hy).1
        simp at this
        omega
      subst this
      have e : x = y := by
        rw [← hl] at hy
        simpa using hy
      subst e
      exact hx
theorem bulk_all {H : Type} {α : Type} (sz : α → Nat) : ∀ (l : List α) (D : Nat → DataW H) (o : Nat), (∀ i x, l[i]? = some x → sz x ≤ Rows.uptoBulk (D (o + i))) → (l.map sz).sum ≤ Rows.uptoBulkAll ((List.range' o l.length).map D)
  | [], _, _, _ => Nat.zero_le _
  | x :: l, D, o, h => by
    have h0 := h 0 x rfl
    have ih := bulk_all sz l D (o + 1) fun i y hy => by
      have := h (i + 1) y hy
      rwa [show o + 1 + i = o + (i + 1) by omega]
    simp only [List.map_cons, List.sum_cons, List.length_cons, List.range'_succ, Rows.uptoBulkAll]
    rw [Nat.add_zero] at h0
    omega
theorem opens_slice {α : Type} {t e : TypeId} {d : Kd α} {wf : α → Prop} {sz : α → Nat} (ht : Tryd.prog.underlying t = some (.slice e)) (hc : Tryd.prog.cellsOf e = d.sz) (h : Opens e d wf sz) :
    Opens t (Kd.slice e d) (fun l => ∀ x ∈ l, wf x) (fun l => (l.map sz).sum + 1) := by
  intro H enc w base spare held fuel cs x hx
  rcases open_slice ht hx with ⟨rfl, rfl⟩ | ⟨a, len, cap, m, n, D, Pl, rfl, _, hl, hm, hmm, rfl, hi⟩
  · exact ⟨[], ⟨none, 0, rfl, Nat.le_refl _, rfl, by simp, fun h => absurd h (by simp)⟩, fun x hx => by simp at hx, by simp [Rows.uptoBulk]⟩
  · have hlm : len ≤ m := by rw [hmm]; split <;> omega
    have hmax : len ≤ 9223372036854775807 := by unfold maxLen at hm; omega
    obtain ⟨l, hll, hp⟩ := list_of (P := fun i x => (∃ c, c.length = d.sz ∧ d.K w x c ∧ ∀ j u, c[j]? = some u → w.cell? (a.add (i * d.sz + j)) = some u) ∧ wf x ∧ sz x ≤ Rows.uptoBulk (D i)) len fun i hil => by
      obtain ⟨cs', hcs, ht'⟩ := hi i (by omega)
      rw [hc] at hcs
      obtain ⟨x, hK, hw, hs⟩ := h H enc w base spare held n cs' _ ht'
      obtain ⟨_, hcl, hat⟩ := World.cells?_some hcs
      refine ⟨x, ⟨cs', hcl, hK, fun j u hu => ?_⟩, hw, hs⟩
      have hj : j < d.sz := by
        have := (List.getElem?_eq_some_iff.1 hu).1
        omega
      rw [← Go.Deep.add_add, hat j hj]
      exact hu
    refine ⟨l, ⟨some a, cap, by rw [hll], by omega, rfl, by omega, fun _ => ⟨a, rfl, fun j p hj => (hp j p hj).1⟩⟩, fun x hx => ?_, ?_⟩
    · obtain ⟨i, hi'⟩ := List.mem_iff_getElem?.1 hx
      exact (hp i x hi').2.1
    · have hb := bulk_all sz l D 0 fun i x hx => by
        rw [Nat.zero_add]
        exact (hp i x hx).2.2
      rw [hll, ← List.range_eq_range'] at hb
      simp only [Rows.uptoBulk]
      omega
set_option maxRecDepth 100000 in
/-- An argument that is a slice. -/
theorem open_arg {α : Type} {t e : TypeId} {d : Kd α} {wf : List α → Prop} {sz : List α → Nat} (ht : Tryd.prog.underlying t = some (.slice e)) (h : Opens t (Kd.slice e d) wf sz)
    {H : Type} {enc : TypeId × Value → H} {W : World} {base b0 : Nat} {spare : Nat → Bool} {held : Bool} {r : Reach} {v : Value} {x : DataW H} {p : List MemPlace}
    (hv : Value.okWide Tryd.prog W r b0 t v) (hd : DataW.Trod enc Tryd.prog W base spare held t v x p) :
    ∃ A c l, v = .slice A l.length c ∧ l.length ≤ c ∧ Kd.C d W A l.length l ∧ wf l ∧ sz l ≤ Rows.uptoBulk x := by
  obtain ⟨a, len, cap, rfl⟩ := okWide_slice ht hv
  obtain ⟨fuel, hf⟩ := hd
  obtain ⟨l, ⟨A, c, hcs, hlc, hC⟩, hw, hs⟩ := h H enc W base spare held fuel _ _ hf
  simp [Value.cells] at hcs
  obtain ⟨rfl, rfl, rfl⟩ := hcs
  exact ⟨_, _, l, rfl, hlc, hC, hw, hs⟩
end Go.Proofs.YtciflnnagkdjiaaDoor.Ext

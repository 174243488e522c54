/- Proved: what an argument that came in reads as, kind by kind: numbers, bools, strings, structs, slices of these; with what is known of each value, and its bulk. No condition. Proved: what an expression that came in reads as, and its bulk. No condition. -/
import Derived.Test.YtlbgnpllbogkeaaDoorRows
import Derived.Test.YtlbgnpllbogkeaaDoorVkWWords
import Derived.Deep.Slices
import Derived.Deep.Fields
import Derived.ChangeSame
import Derived.ChangeArms
import Derived.OpenShut
import Derived.Test.YtlbgnpllbogkeaaDoorVkArBackQ
import Derived.Lib.SmallJoins
section
namespace Go.Proofs.YtlbgnpllbogkeaaDoor.Ext
open Go.RowKit Go.ChangeShapes Go.WideShapes Go.Deep Go.Proofs.YtlbgnpllbogkeaaDoorW.PrintWords
/-- One value for each place. -/
theorem list_of {α : Type} {P : Nat → α → Prop} : ∀ n, (∀ i, i < n → ∃ x, P i x) → ∃ l : List α, l.length = n ∧ ∀ i x, l[i]? = some x → P i x
  | 0, _ => ⟨[], rfl, fun i x h => by simp at h⟩
  | n + 1, h => by
    obtain ⟨l, hl, hp⟩ := list_of n fun i hi => h i (by omega)
    obtain ⟨x, hx⟩ := h n (by omega)
    refine ⟨l ++ [x], by simp [hl], fun i y hy => ?_⟩
    rcases Nat.lt_or_ge i l.length with hi | hi
    · rw [List.getElem?_append_left hi] at hy
      exact hp i y hy
    · have : i = n := by
        have := (List.getElem?_eq_some_iff.1 hy).1
        simp at this
        omega
      subst this
      have e : x = y := by
        rw [← hl] at hy
        simpa using hy
      subst e
      exact hx
end Go.Proofs.YtlbgnpllbogkeaaDoor.Ext
end

section
set_option linter.unusedVariables false
set_option linter.unusedSimpArgs false
set_option maxRecDepth 100000
namespace Go.Proofs.YtlbgnpllbogkeaaDoor.Ext
open Go.RowKit Go.ChangeShapes Go.WideShapes Go.Deep Go.Joins Go.Proofs.YtlbgnpllbogkeaaDoorW.PrintWords
mutual
/-- How much an expression holds. -/
def szE : E → Nat
  | .mk op nm n ks => op.size + nm.size + szsE ks + 5
def szsE : List E → Nat
  | [] => 0
  | k :: ks => szE k + szsE ks
end
theorem szsE_mem : ∀ (ks : List E) (k : E), k ∈ ks → szE k ≤ szsE ks
  | [], k, h => by cases h
  | a :: ks, k, h => by
    rw [szsE]
    rcases List.mem_cons.1 h with rfl | h
    · omega
    · have := szsE_mem ks k h
      omega
theorem szE_kid {x k : E} (h : k ∈ x.kids) : szE k < szE x := by
  cases x with
  | mk op nm n ks =>
    have := szsE_mem ks k h
    rw [szE]
    omega
/-- The numbers of an expression are an int's (from below too). -/
def WfE (x : E) : Prop := NumE x ∧ anyE (fun y => decide (y.num < -9223372036854775808)) x = false
theorem bulk_mem {H : Type} (D : Nat → DataW H) : ∀ (n o i : Nat), i < n → Rows.uptoBulk (D (o + i)) ≤ Rows.uptoBulkAll ((List.range' o n).map D)
  | 0, o, i, h => absurd h (Nat.not_lt_zero _)
  | n + 1, o, i, h => by
    rw [List.range'_succ, List.map_cons]
    simp only [Rows.uptoBulkAll]
    cases i with
    | zero => rw [Nat.add_zero]; omega
    | succ i =>
      have := bulk_mem D n (o + 1) i (by omega)
      rw [show o + 1 + i = o + (i + 1) by omega] at this
      omega
theorem bulk_szs {H : Type} : ∀ (l : List E) (D : Nat → DataW H) (o : Nat), (∀ i x, l[i]? = some x → szE x ≤ Rows.uptoBulk (D (o + i))) → szsE l ≤ Rows.uptoBulkAll ((List.range' o l.length).map D)
  | [], D, o, _ => by rw [szsE]; exact Nat.zero_le _
  | x :: l, D, o, h => by
    have h0 := h 0 x rfl
    have ih := bulk_szs l D (o + 1) fun i y hy => by
      have := h (i + 1) y hy
      rwa [show o + 1 + i = o + (i + 1) by omega]
    rw [szsE]
    simp only [List.length_cons, List.range'_succ, List.map_cons, Rows.uptoBulkAll]
    rw [Nat.add_zero] at h0
    omega
theorem any_kids {P : E → Bool} {x : E} (h0 : P x = false) (h : ∀ k ∈ x.kids, anyE P k = false) : anyE P x = false := by
  rw [anyE_eq, h0, Bool.false_or, List.any_eq_false]
  intro k hk
  rw [h k hk]
  decide
theorem opens_sum {H : Type} {enc : TypeId × Value → H} {w : World} {base : Nat} {spare : Nat → Bool} {held : Bool} : ∀ (B fuel : Nat) (cs : List Value) (x : DataW H × List MemPlace),
    DataW.trod enc Tryd.prog w base spare held fuel 25 cs = some x → Rows.uptoBulk x.1 ≤ B → ∃ e : E, SumR w (fun _ => True) e cs ∧ WfE e ∧ szE e ≤ Rows.uptoBulk x.1 := by
  intro B
  induction B with
  | zero =>
    intro fuel cs x h hb
    obtain ⟨y0, y1, y2, y3, n, rfl, _⟩ := trod_struct4 Tryd.underlying25 h
    simp only [Rows.uptoBulk] at hb
    omega
  | succ B ih =>
    intro fuel cs x h hb
    obtain ⟨y0, y1, y2, y3, n, rfl, hlen, h0, h1, h2, h3⟩ := trod_struct4 Tryd.underlying25 h
    have hc : Tryd.prog.cellsOf 25 = 4 := by kernel_rfl
    have hc9 : Tryd.prog.cellsOf 9 = 1 := by kernel_rfl
    have hc3 : Tryd.prog.cellsOf 3 = 1 := by kernel_rfl
    have hcs : Tryd.prog.cellsOf 23 = 1 := by kernel_rfl
    rw [hc] at hlen
    obtain ⟨v0, v1, v2, v3, rfl⟩ : ∃ v0 v1 v2 v3, cs = [v0, v1, v2, v3] := by
      match cs, hlen with
      | [a, b, c, d], _ => exact ⟨a, b, c, d, rfl⟩
    have h0 : DataW.trod enc Tryd.prog w base spare held n 9 [v0] = some y0 := by
      have := h0
      dsimp only at this
      rw [hc9] at this
      exact this
    have h1 : DataW.trod enc Tryd.prog w base spare held n 9 [v1] = some y1 := by
      have := h1
      dsimp only at this
      rw [hc9] at this
      exact this
    have h2 : DataW.trod enc Tryd.prog w base spare held n 3 [v2] = some y2 := by
      have := h2
      dsimp only at this
      rw [hc3] at this
      exact this
    have h3 : DataW.trod enc Tryd.prog w base spare held n 23 [v3] = some y3 := by
      have := h3
      dsimp only at this
      rw [hcs] at this
      exact this
    obtain ⟨op, e0, rfl, _⟩ := DataW.trod_string Tryd.underlying9 h0
    obtain ⟨nm, e1, rfl, _⟩ := DataW.trod_string Tryd.underlying9 h1
    obtain ⟨m, e2, rfl, hwf⟩ := DataW.trod_int Tryd.underlying3 h2
    obtain rfl : v0 = .string op := by injection e0
    obtain rfl : v1 = .string nm := by injection e1
    obtain rfl : v2 = .int .i64 m := by injection e2
    have hwf2 : -9223372036854775808 ≤ m ∧ m ≤ 9223372036854775807 := bounds_i64 hwf
    rcases open_slice Tryd.underlying23 h3 with ⟨e3, rfl⟩ | ⟨a, len, cap, mm, nn, D, Pl, e3, _, hl, hm, hmm, rfl, hi⟩
    · obtain rfl : v3 = .slice none 0 0 := by injection e3
      refine ⟨.mk op nm m [], SumR.leaf _ _ _ _ _, ⟨any_kids (decide_eq_false (by show ¬ _ < m; omega)) (fun k hk => by cases hk), any_kids (decide_eq_false (by show ¬ m < _; omega)) (fun k hk => by cases hk)⟩, ?_⟩
      rw [szE, szsE]
      simp only [Rows.uptoBulk, Rows.uptoBulkAll]
      rw [Lib.size_eq (s := op), Lib.size_eq (s := nm)]
      omega
    · obtain rfl : v3 = .slice (some a) len cap := by injection e3
      have hlm : len ≤ mm := by rw [hmm]; split <;> omega
      have hmax : len ≤ 9223372036854775807 := by unfold maxLen at hm; omega
      simp only [Rows.uptoBulk, Rows.uptoBulkAll] at hb
      rw [hc] at hi
      obtain ⟨l, hll, hp⟩ := list_of (α := E × List Value) (P := fun i (y : E × List Value) => (SumR w (fun _ => True) y.1 y.2 ∧ ∀ j u, y.2[j]? = some u → w.cell? (a.add (i * 4 + j)) = some u) ∧ WfE y.1 ∧ szE y.1 ≤ Rows.uptoBulk (D i)) len fun i hil => by
        obtain ⟨cs', hcs', ht'⟩ := hi i (by omega)
        have hbm := bulk_mem D len 0 i hil
        rw [Nat.zero_add, ← List.range_eq_range'] at hbm
        obtain ⟨e, he1, he2, he3⟩ := ih nn cs' _ ht' (by show Rows.uptoBulk (D i) ≤ B; omega)
        obtain ⟨_, hcl, hat⟩ := World.cells?_some hcs'
        refine ⟨(e, cs'), ⟨he1, fun j u hu => ?_⟩, he2, he3⟩
        have hj : j < 4 := by
          have hjl : j < cs'.length := (List.getElem?_eq_some_iff.1 hu).1
          omega
        rw [← Go.Deep.add_add, hat j hj]
        exact hu
      have hget : ∀ (j : Nat) (k : E), (l.map Prod.fst)[j]? = some k → ∃ y : E × List Value, l[j]? = some y ∧ y.1 = k := by
        intro j k hk
        rw [List.getElem?_map] at hk
        cases hy : l[j]? with
        | none => rw [hy] at hk; cases hk
        | some y => rw [hy] at hk; exact ⟨y, rfl, Option.some.inj hk⟩
      have hlk : (l.map Prod.fst).length = len := by rw [List.length_map, hll]
      have hS : SumR w (fun _ => True) (.mk op nm m (l.map Prod.fst)) [.string op, .string nm, .int .i64 m, .slice (some a) (l.map Prod.fst).length cap] := by
        refine .mk op nm m _ _ cap (fun j => (l.getD j (zeroE, [])).2) (by omega) (by omega) (fun j k hk => ?_) (fun hp0 => ⟨a, rfl, trivial, fun j hj i u hu => ?_⟩)
        · obtain ⟨y, hy, rfl⟩ := hget j k hk
          rw [List.getD_eq_getElem?_getD, hy]
          exact (hp j y hy).1.1
        · rw [hlk] at hj
          have hy : l[j]? = some l[j] := List.getElem?_eq_getElem (by omega)
          rw [List.getD_eq_getElem?_getD, hy] at hu
          exact (hp j _ hy).1.2 i u hu
      rw [hlk] at hS
      have hkw : ∀ k ∈ l.map Prod.fst, WfE k := by
        intro k hk
        obtain ⟨j, hj⟩ := List.mem_iff_getElem?.1 hk
        obtain ⟨y, hy, rfl⟩ := hget j k hj
        exact (hp j y hy).2.1
      refine ⟨.mk op nm m (l.map Prod.fst), hS, ⟨any_kids (decide_eq_false (by show ¬ _ < m; omega)) (fun k hk => (hkw k hk).1), any_kids (decide_eq_false (by show ¬ m < _; omega)) (fun k hk => (hkw k hk).2)⟩, ?_⟩
      have hbs := bulk_szs (l.map Prod.fst) D 0 (fun i x hx => by
        obtain ⟨y, hy, rfl⟩ := hget i x hx
        rw [Nat.zero_add]
        exact (hp i y hy).2.2)
      rw [hlk, ← List.range_eq_range'] at hbs
      rw [szE]
      simp only [Rows.uptoBulk, Rows.uptoBulkAll]
      rw [Lib.size_eq (s := op), Lib.size_eq (s := nm)]
      omega
/-- An argument that is an expression. -/
theorem open_T25 {H : Type} {enc : TypeId × Value → H} {W : World} {base b0 : Nat} {spare : Nat → Bool} {held : Bool} {r : Reach} {v : Value} {x : DataW H} {p : List MemPlace}
    (hv : Value.okWide Tryd.prog W r b0 25 v) (hd : DataW.Trod enc Tryd.prog W base spare held 25 v x p) :
    ∃ (e : E) (A : Option Addr) (c : Nat), v = .agg #[.string e.op, .string e.name, .int .i64 e.num, .slice A e.kids.length c] ∧ SumR W (fun _ => True) e [.string e.op, .string e.name, .int .i64 e.num, .slice A e.kids.length c] ∧ WfE e ∧ szE e ≤ Rows.uptoBulk x := by
  obtain ⟨cs, rfl, hsz⟩ := okWide_struct Tryd.underlying25 hv
  obtain ⟨fuel, hf⟩ := hd
  obtain ⟨e, hS, hw, hs⟩ := opens_sum _ fuel _ _ hf (Nat.le_refl _)
  obtain ⟨A, c, he, _, _⟩ := hS.inv
  have ec : cs = #[.string e.op, .string e.name, .int .i64 e.num, .slice A e.kids.length c] := by
    apply Array.toList_inj.1
    simpa [Value.cells] using he
  rw [he] at hS
  exact ⟨e, A, c, by rw [ec], hS, hw, hs⟩
end Go.Proofs.YtlbgnpllbogkeaaDoor.Ext
end

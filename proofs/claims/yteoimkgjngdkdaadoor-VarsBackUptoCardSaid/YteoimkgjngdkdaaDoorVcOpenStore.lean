/- Proved: what a store that came in reads as: variables, arguments, a status; with its bulk. No condition. -/
import Derived.Test.YteoimkgjngdkdaaDoorVcOpens
set_option linter.unusedVariables false
set_option maxRecDepth 100000
namespace Go.Proofs.YteoimkgjngdkdaaDoor.Ext
open Go.RowKit Go.ChangeShapes Go.WideShapes Go.Deep Go.Proofs.YteoimkgjngdkdaaDoor.P Go.Proofs.YteoimkgjngdkdaaDoorW.PrintWords
theorem open_T25 {H : Type} {enc : TypeId × Value → H} {W : World} {base b0 : Nat} {spare : Nat → Bool} {held : Bool} {r : Reach} {v : Value} {x : DataW H} {p : List MemPlace}
    (hv : Value.okWide Tryd.prog W r b0 25 v) (hd : DataW.Trod enc Tryd.prog W base spare held 25 v x p) :
    ∃ A0 c0 l0 A1 c1 l1 n, v = .agg #[.slice A0 l0.length c0, .slice A1 l1.length c1, .int .i64 n] ∧ l0.length ≤ c0 ∧ Kd.C k53 W A0 l0.length l0 ∧ l1.length ≤ c1 ∧ Kd.C Kd.string W A1 l1.length l1 ∧ (Lit.int .i64 n).wf = true ∧ (l0.map szS53).sum + (l1.map fun y => y.size + 1).sum ≤ Rows.uptoBulk x := by
  have ho := opens_struct (d := Kd.pair (Kd.slice 53 k53) (Kd.pair (Kd.slice 9 Kd.string) (Kd.int .i64))) Tryd.underlying25 (by kernel_rfl)
    (opensAt_cons rfl (by kernel_rfl) (opens_slice Tryd.underlying22 (by kernel_rfl) opens_T53) rfl (opensAt_cons rfl (by kernel_rfl) (opens_slice Tryd.underlying23 (by kernel_rfl) (opens_string Tryd.underlying9)) rfl (opensAt_one rfl (by kernel_rfl) (opens_int Tryd.underlying3))))
  obtain ⟨cs, rfl, hsz⟩ := okWide_struct Tryd.underlying25 hv
  obtain ⟨fuel, hf⟩ := hd
  obtain ⟨y, hK, hw, hs⟩ := ho H enc W base spare held fuel _ _ hf
  obtain ⟨c0, c1, e, ⟨A0, q0, rfl, hl0, hC0⟩, c2, c3, rfl, ⟨A1, q1, rfl, hl1, hC1⟩, h3⟩ := hK
  obtain rfl : c3 = [.int .i64 y.2.2] := h3
  have ec : cs = #[.slice A0 y.1.length q0, .slice A1 y.2.1.length q1, .int .i64 y.2.2] := by
    apply Array.toList_inj.1
    simpa [Value.cells] using e
  dsimp only at hs
  exact ⟨A0, q0, y.1, A1, q1, y.2.1, y.2.2, by rw [ec], hl0, hC0, hl1, hC1, hw.2.2, by omega⟩
theorem bulk_V : ∀ l : List S53, l.length ≤ (l.map szS53).sum ∧ ∀ x ∈ l, x.f3.length ≤ (l.map szS53).sum ∧ x.f0.size ≤ (l.map szS53).sum ∧ x.f1.size ≤ (l.map szS53).sum
  | [] => ⟨Nat.le_refl _, by simp⟩
  | p :: l => by
    obtain ⟨h1, h2⟩ := bulk_V l
    have hb : ∀ t : List ByteArray, t.length ≤ (t.map fun y => y.size + 1).sum := fun t => by
      induction t with
      | nil => exact Nat.le_refl _
      | cons a t ih =>
        simp only [List.map_cons, List.sum_cons, List.length_cons]
        omega
    have e : szS53 p = (p.f0.size + 1 + (p.f1.size + 1 + (1 + ((p.f3.map fun y => y.size + 1).sum + 1)))) + 1 := rfl
    have h3 := hb p.f3
    simp only [List.map_cons, List.sum_cons, List.length_cons]
    refine ⟨by omega, fun x hx => ?_⟩
    rcases List.mem_cons.1 hx with rfl | hx
    · refine ⟨by omega, by omega, by omega⟩
    · have := h2 x hx
      refine ⟨by omega, by omega, by omega⟩
theorem bulk_S : ∀ t : List ByteArray, t.length ≤ (t.map fun y => y.size + 1).sum
  | [] => Nat.le_refl _
  | a :: t => by
    have ih := bulk_S t
    simp only [List.map_cons, List.sum_cons, List.length_cons]
    omega
theorem bulk_ST : ∀ t : List ByteArray, ∀ y ∈ t, y.size ≤ (t.map fun y => y.size + 1).sum
  | [], y, h => by simp at h
  | a :: t, y, h => by
    simp only [List.map_cons, List.sum_cons]
    rcases List.mem_cons.1 h with rfl | h
    · omega
    · have := bulk_ST t y h
      omega
theorem bulk_VT : ∀ l : List S53, ∀ x ∈ l, ∀ y ∈ x.f3, y.size ≤ (l.map szS53).sum
  | [], x, h => by simp at h
  | p :: l, x, h => fun y hy => by
    have e : szS53 p = (p.f0.size + 1 + (p.f1.size + 1 + (1 + ((p.f3.map fun y => y.size + 1).sum + 1)))) + 1 := rfl
    simp only [List.map_cons, List.sum_cons]
    rcases List.mem_cons.1 h with rfl | h
    · have := bulk_ST x.f3 y hy
      omega
    · have := bulk_VT l x h y hy
      omega
theorem store_bulk {l : List S53} {t : List ByteArray} (h : (l.map szS53).sum + (t.map fun y => y.size + 1).sum ≤ 1048576) :
    l.length ≤ 1048576 ∧ (∀ x ∈ l, x.f3.length ≤ 1048576 ∧ x.f0.size ≤ 1048576 ∧ x.f1.size ≤ 1048576 ∧ ∀ y ∈ x.f3, y.size ≤ 1048576) ∧ t.length ≤ 1048576 ∧ ∀ y ∈ t, y.size ≤ 1048576 := by
  obtain ⟨h1, h2⟩ := bulk_V l
  refine ⟨by omega, fun x hx => ?_, Nat.le_trans (bulk_S t) (by omega), fun y hy => Nat.le_trans (bulk_ST t y hy) (by omega)⟩
  obtain ⟨g1, g2, g3⟩ := h2 x hx
  exact ⟨by omega, by omega, by omega, fun y hy => Nat.le_trans (bulk_VT l x hx y hy) (by omega)⟩
end Go.Proofs.YteoimkgjngdkdaaDoor.Ext

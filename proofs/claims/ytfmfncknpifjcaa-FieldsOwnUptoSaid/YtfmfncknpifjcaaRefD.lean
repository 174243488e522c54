-- Written by a program of this session (xprint.py) out of the translation.
import Derived.Test.YtfmfncknpifjcaaP0
import Derived.Test.YtfmfncknpifjcaaP12
namespace Go.Proofs.Ytfmfncknpifjcaa.P
open Go.RowKit Go.Proofs.YtfmfncknpifjcaaW.PrintWords Go.Proofs.YtfmfncknpifjcaaW.PrintLast Go.Proofs.YtfmfncknpifjcaaW.PrintMore
attribute [local go_sem] max2_int min2_int max_two min_two max_three min_three max_four min_four   -- for this text's walks alone
set_option linter.unusedVariables false
set_option linter.unusedSimpArgs false

/-! ### cowrieref08_Fields: function 12 -/
mutual
def cowrieref08_Fields.l0 : Nat → List (S35) → ByteArray → List (List (S24)) → List (S24) → Bool → Bool → Int → Option ((List (List (S24))))
  | 0, _, _, _, _, _, _, _ => none
  | k + 1, x0, x1, x5, x6, x7, x8, x9 => if x9 < (x0.length : Int) then (if 0 ≤ x9 then (if (rd_T35 x0 x9).f2 = true then (cowrieref08_Fields.j1 k x0 x1 x5 x6 true false x9) else (cowrieref08_Fields.j1 k x0 x1 x5 x6 x7 x8 x9)) else (none)) else (if x7 = true then (if x5.length < 5864062014805 then (some (x5 ++ [x6])) else (none)) else (some x5))
def cowrieref08_Fields.j1 : Nat → List (S35) → ByteArray → List (List (S24)) → List (S24) → Bool → Bool → Int → Option ((List (List (S24))))
  | 0, _, _, _, _, _, _, _ => none
  | k + 1, x0, x1, x5, x6, x7, x8, x9 => cowrieref08_Fields.l1 k x0 x1 x5 x6 x7 x8 x9 0
def cowrieref08_Fields.l1 : Nat → List (S35) → ByteArray → List (List (S24)) → List (S24) → Bool → Bool → Int → Int → Option ((List (List (S24))))
  | 0, _, _, _, _, _, _, _, _ => none
  | k + 1, x0, x1, x5, x6, x7, x8, x9, x10 => if 0 ≤ x9 then (if x9 < (x0.length : Int) then (if x10 < (((rd_T35 x0 x9).f0).length : Int) then (if 0 ≤ x10 then (if (rd_T35 x0 x9).f1 = true then (if ((rd_T24 ((rd_T35 x0 x9).f0) x10).f1 = true) then (cowrieref08_Fields.j3 k x0 x1 x5 x6 x7 x8 x9 x10 false ((rd_T24 ((rd_T35 x0 x9).f0) x10).f0) ((rd_T24 ((rd_T35 x0 x9).f0) x10).f1)) else ((cowrieref08_in.f k x1 ((rd_T24 ((rd_T35 x0 x9).f0) x10).f0)).bind fun t182 => (cowrieref08_Fields.j3 k x0 x1 x5 x6 x7 x8 x9 x10 t182 ((rd_T24 ((rd_T35 x0 x9).f0) x10).f0) ((rd_T24 ((rd_T35 x0 x9).f0) x10).f1)))) else (cowrieref08_Fields.j3 k x0 x1 x5 x6 x7 x8 x9 x10 false ((rd_T24 ((rd_T35 x0 x9).f0) x10).f0) ((rd_T24 ((rd_T35 x0 x9).f0) x10).f1))) else (none)) else (if (rd_T35 x0 x9).f3 = true then (if x5.length < 5864062014805 then (cowrieref08_Fields.l0 k x0 x1 (x5 ++ [x6]) ([] : List (S24)) false false (wrap64 (x9 + 1))) else (none)) else (cowrieref08_Fields.l0 k x0 x1 x5 x6 x7 x8 (wrap64 (x9 + 1))))) else (none)) else (none)
def cowrieref08_Fields.j3 : Nat → List (S35) → ByteArray → List (List (S24)) → List (S24) → Bool → Bool → Int → Int → Bool → Int → Bool → Option ((List (List (S24))))
  | 0, _, _, _, _, _, _, _, _, _, _, _ => none
  | k + 1, x0, x1, x5, x6, x7, x8, x9, x10, x12, x181000, x181001 => if x181000 = 32 then (cowrieref08_Fields.j4 k x0 x1 x5 x6 x7 x8 x9 x10 x12 true x181000 x181001) else (if x181000 = 9 then (cowrieref08_Fields.j4 k x0 x1 x5 x6 x7 x8 x9 x10 x12 true x181000 x181001) else (cowrieref08_Fields.j4 k x0 x1 x5 x6 x7 x8 x9 x10 x12 (x181000 == 10) x181000 x181001))
def cowrieref08_Fields.j4 : Nat → List (S35) → ByteArray → List (List (S24)) → List (S24) → Bool → Bool → Int → Int → Bool → Bool → Int → Bool → Option ((List (List (S24))))
  | 0, _, _, _, _, _, _, _, _, _, _, _, _ => none
  | k + 1, x0, x1, x5, x6, x7, x8, x9, x10, x12, x13, x181000, x181001 => if x12 = true then (if x7 = true then (if x5.length < 5864062014805 then (cowrieref08_Fields.l1 k x0 x1 (x5 ++ [x6]) ([] : List (S24)) false x13 x9 (wrap64 (x10 + 1))) else (none)) else (if x13 = true then (cowrieref08_Fields.l1 k x0 x1 x5 x6 x7 x8 x9 (wrap64 (x10 + 1))) else (if x8 = true then (cowrieref08_Fields.l1 k x0 x1 x5 x6 x7 false x9 (wrap64 (x10 + 1))) else (if x5.length < 5864062014805 then (cowrieref08_Fields.l1 k x0 x1 (x5 ++ [[]]) x6 x7 x8 x9 (wrap64 (x10 + 1))) else (none))))) else (if x6.length < 70368744177664 then (cowrieref08_Fields.l1 k x0 x1 x5 (x6 ++ [(⟨x181000, x181001⟩ : S24)]) true false x9 (wrap64 (x10 + 1))) else (none))
end
def cowrieref08_Fields.f (k : Nat) (l0 : List (S35)) (a1 : ByteArray) : Option ((List (List (S24)))) := cowrieref08_Fields.l0 k l0 a1 ([] : List (List (S24))) ([] : List (S24)) false false 0
theorem cowrieref08_Fields.mono_l : ∀ k, (∀ y0 y1 y2 y3 y4 y5 y6, LeO (cowrieref08_Fields.l0 k y0 y1 y2 y3 y4 y5 y6) (cowrieref08_Fields.l0 (k + 1) y0 y1 y2 y3 y4 y5 y6)) ∧ (∀ y0 y1 y2 y3 y4 y5 y6, LeO (cowrieref08_Fields.j1 k y0 y1 y2 y3 y4 y5 y6) (cowrieref08_Fields.j1 (k + 1) y0 y1 y2 y3 y4 y5 y6)) ∧ (∀ y0 y1 y2 y3 y4 y5 y6 y7, LeO (cowrieref08_Fields.l1 k y0 y1 y2 y3 y4 y5 y6 y7) (cowrieref08_Fields.l1 (k + 1) y0 y1 y2 y3 y4 y5 y6 y7)) ∧ (∀ y0 y1 y2 y3 y4 y5 y6 y7 y8 y9 y10, LeO (cowrieref08_Fields.j3 k y0 y1 y2 y3 y4 y5 y6 y7 y8 y9 y10) (cowrieref08_Fields.j3 (k + 1) y0 y1 y2 y3 y4 y5 y6 y7 y8 y9 y10)) ∧ (∀ y0 y1 y2 y3 y4 y5 y6 y7 y8 y9 y10 y11, LeO (cowrieref08_Fields.j4 k y0 y1 y2 y3 y4 y5 y6 y7 y8 y9 y10 y11) (cowrieref08_Fields.j4 (k + 1) y0 y1 y2 y3 y4 y5 y6 y7 y8 y9 y10 y11))
  | 0 => ⟨fun _ _ _ _ _ _ _ r h => by simp [cowrieref08_Fields.l0] at h, fun _ _ _ _ _ _ _ r h => by simp [cowrieref08_Fields.j1] at h, fun _ _ _ _ _ _ _ _ r h => by simp [cowrieref08_Fields.l1] at h, fun _ _ _ _ _ _ _ _ _ _ _ r h => by simp [cowrieref08_Fields.j3] at h, fun _ _ _ _ _ _ _ _ _ _ _ _ r h => by simp [cowrieref08_Fields.j4] at h⟩
  | k + 1 => by
    obtain ⟨ih0, ih1, ih2, ih3, ih4⟩ := cowrieref08_Fields.mono_l k
    refine ⟨?_, ?_, ?_, ?_, ?_⟩
    · intro y0 y1 y2 y3 y4 y5 y6
      unfold cowrieref08_Fields.l0
      repeat' first
      | (with_reducible exact ih0 _ _ _ _ _ _ _)
      | (with_reducible exact ih1 _ _ _ _ _ _ _)
      | (with_reducible exact ih2 _ _ _ _ _ _ _ _)
      | (with_reducible exact ih3 _ _ _ _ _ _ _ _ _ _ _)
      | (with_reducible exact ih4 _ _ _ _ _ _ _ _ _ _ _ _)
      | (with_reducible exact cowrieref08_in.mono _ _ _)
      | (with_reducible exact LeO.refl _)
      | (with_reducible exact LeO.none _)
      | (with_reducible refine LeO.ite ?_ ?_)
      | (with_reducible refine LeO.bind ?_ (fun _ => ?_))
      | exact ih0 _ _ _ _ _ _ _
      | exact ih1 _ _ _ _ _ _ _
      | exact ih2 _ _ _ _ _ _ _ _
      | exact ih3 _ _ _ _ _ _ _ _ _ _ _
      | exact ih4 _ _ _ _ _ _ _ _ _ _ _ _
      | exact cowrieref08_in.mono _ _ _
      | exact LeO.none _
      | refine LeO.ite ?_ ?_
      | refine LeO.bind ?_ (fun _ => ?_)
    · intro y0 y1 y2 y3 y4 y5 y6
      unfold cowrieref08_Fields.j1
      repeat' first
      | (with_reducible exact ih0 _ _ _ _ _ _ _)
      | (with_reducible exact ih1 _ _ _ _ _ _ _)
      | (with_reducible exact ih2 _ _ _ _ _ _ _ _)
      | (with_reducible exact ih3 _ _ _ _ _ _ _ _ _ _ _)
      | (with_reducible exact ih4 _ _ _ _ _ _ _ _ _ _ _ _)
      | (with_reducible exact cowrieref08_in.mono _ _ _)
      | (with_reducible exact LeO.refl _)
      | (with_reducible exact LeO.none _)
      | (with_reducible refine LeO.ite ?_ ?_)
      | (with_reducible refine LeO.bind ?_ (fun _ => ?_))
      | exact ih0 _ _ _ _ _ _ _
      | exact ih1 _ _ _ _ _ _ _
      | exact ih2 _ _ _ _ _ _ _ _
      | exact ih3 _ _ _ _ _ _ _ _ _ _ _
      | exact ih4 _ _ _ _ _ _ _ _ _ _ _ _
      | exact cowrieref08_in.mono _ _ _
      | exact LeO.none _
      | refine LeO.ite ?_ ?_
      | refine LeO.bind ?_ (fun _ => ?_)
    · intro y0 y1 y2 y3 y4 y5 y6 y7
      unfold cowrieref08_Fields.l1
      repeat' first
      | (with_reducible exact ih0 _ _ _ _ _ _ _)
      | (with_reducible exact ih1 _ _ _ _ _ _ _)
      | (with_reducible exact ih2 _ _ _ _ _ _ _ _)
      | (with_reducible exact ih3 _ _ _ _ _ _ _ _ _ _ _)
      | (with_reducible exact ih4 _ _ _ _ _ _ _ _ _ _ _ _)
      | (with_reducible exact cowrieref08_in.mono _ _ _)
      | (with_reducible exact LeO.refl _)
      | (with_reducible exact LeO.none _)
      | (with_reducible refine LeO.ite ?_ ?_)
      | (with_reducible refine LeO.bind ?_ (fun _ => ?_))
      | exact ih0 _ _ _ _ _ _ _
      | exact ih1 _ _ _ _ _ _ _
      | exact ih2 _ _ _ _ _ _ _ _
      | exact ih3 _ _ _ _ _ _ _ _ _ _ _
      | exact ih4 _ _ _ _ _ _ _ _ _ _ _ _
      | exact cowrieref08_in.mono _ _ _
      | exact LeO.none _
      | refine LeO.ite ?_ ?_
      | refine LeO.bind ?_ (fun _ => ?_)
    · intro y0 y1 y2 y3 y4 y5 y6 y7 y8 y9 y10
      unfold cowrieref08_Fields.j3
      repeat' first
      | (with_reducible exact ih0 _ _ _ _ _ _ _)
      | (with_reducible exact ih1 _ _ _ _ _ _ _)
      | (with_reducible exact ih2 _ _ _ _ _ _ _ _)
      | (with_reducible exact ih3 _ _ _ _ _ _ _ _ _ _ _)
      | (with_reducible exact ih4 _ _ _ _ _ _ _ _ _ _ _ _)
      | (with_reducible exact cowrieref08_in.mono _ _ _)
      | (with_reducible exact LeO.refl _)
      | (with_reducible exact LeO.none _)
      | (with_reducible refine LeO.ite ?_ ?_)
      | (with_reducible refine LeO.bind ?_ (fun _ => ?_))
      | exact ih0 _ _ _ _ _ _ _
      | exact ih1 _ _ _ _ _ _ _
      | exact ih2 _ _ _ _ _ _ _ _
      | exact ih3 _ _ _ _ _ _ _ _ _ _ _
      | exact ih4 _ _ _ _ _ _ _ _ _ _ _ _
      | exact cowrieref08_in.mono _ _ _
      | exact LeO.none _
      | refine LeO.ite ?_ ?_
      | refine LeO.bind ?_ (fun _ => ?_)
    · intro y0 y1 y2 y3 y4 y5 y6 y7 y8 y9 y10 y11
      unfold cowrieref08_Fields.j4
      repeat' first
      | (with_reducible exact ih0 _ _ _ _ _ _ _)
      | (with_reducible exact ih1 _ _ _ _ _ _ _)
      | (with_reducible exact ih2 _ _ _ _ _ _ _ _)
      | (with_reducible exact ih3 _ _ _ _ _ _ _ _ _ _ _)
      | (with_reducible exact ih4 _ _ _ _ _ _ _ _ _ _ _ _)
      | (with_reducible exact cowrieref08_in.mono _ _ _)
      | (with_reducible exact LeO.refl _)
      | (with_reducible exact LeO.none _)
      | (with_reducible refine LeO.ite ?_ ?_)
      | (with_reducible refine LeO.bind ?_ (fun _ => ?_))
      | exact ih0 _ _ _ _ _ _ _
      | exact ih1 _ _ _ _ _ _ _
      | exact ih2 _ _ _ _ _ _ _ _
      | exact ih3 _ _ _ _ _ _ _ _ _ _ _
      | exact ih4 _ _ _ _ _ _ _ _ _ _ _ _
      | exact cowrieref08_in.mono _ _ _
      | exact LeO.none _
      | refine LeO.ite ?_ ?_
      | refine LeO.bind ?_ (fun _ => ?_)
theorem cowrieref08_Fields.mono : ∀ a0 a1 k, LeO (cowrieref08_Fields.f k a0 a1) (cowrieref08_Fields.f (k + 1) a0 a1) := by
  intro a0 a1 k
  obtain ⟨ih0, ih1, ih2, ih3, ih4⟩ := cowrieref08_Fields.mono_l k
  unfold cowrieref08_Fields.f
  repeat' first
      | (with_reducible exact ih0 _ _ _ _ _ _ _)
      | (with_reducible exact ih1 _ _ _ _ _ _ _)
      | (with_reducible exact ih2 _ _ _ _ _ _ _ _)
      | (with_reducible exact ih3 _ _ _ _ _ _ _ _ _ _ _)
      | (with_reducible exact ih4 _ _ _ _ _ _ _ _ _ _ _ _)
      | (with_reducible exact cowrieref08_in.mono _ _ _)
      | (with_reducible exact LeO.refl _)
      | (with_reducible exact LeO.none _)
      | (with_reducible refine LeO.ite ?_ ?_)
      | (with_reducible refine LeO.bind ?_ (fun _ => ?_))
      | exact ih0 _ _ _ _ _ _ _
      | exact ih1 _ _ _ _ _ _ _
      | exact ih2 _ _ _ _ _ _ _ _
      | exact ih3 _ _ _ _ _ _ _ _ _ _ _
      | exact ih4 _ _ _ _ _ _ _ _ _ _ _ _
      | exact cowrieref08_in.mono _ _ _
      | exact LeO.none _
      | refine LeO.ite ?_ ?_
      | refine LeO.bind ?_ (fun _ => ?_)
end Go.Proofs.Ytfmfncknpifjcaa.P

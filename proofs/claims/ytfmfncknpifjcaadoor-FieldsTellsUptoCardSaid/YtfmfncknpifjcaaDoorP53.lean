-- Written by a program of this session (xprint.py) out of the translation.
import Derived.Test.YtfmfncknpifjcaaDoorP0
import Derived.Test.YtfmfncknpifjcaaDoorP52
import Derived.Test.YtfmfncknpifjcaaDoorFields
import Derived.Test.YtfmfncknpifjcaaDoorText
import Derived.Test.YtfmfncknpifjcaaDoorReplace
import Derived.Test.YtfmfncknpifjcaaDoorJoin
import Derived.Test.YtfmfncknpifjcaaDoorStrW
namespace Go.Proofs.YtfmfncknpifjcaaDoor.P
open Go.RowKit Go.Proofs.YtfmfncknpifjcaaDoorW.PrintWords Go.Proofs.YtfmfncknpifjcaaDoorW.PrintLast Go.Proofs.YtfmfncknpifjcaaDoor.Ext Go.Proofs.YtfmfncknpifjcaaDoorW.PrintMore
attribute [local go_sem] max2_int min2_int max_two min_two max_three min_three max_four min_four   -- for this text's walks alone
set_option linter.unusedVariables false
set_option linter.unusedSimpArgs false

/-! ### cowrieref08_Fields: function 10 -/
mutual
def cowrieref08_Fields.l0 : Nat → List (S53) → ByteArray → List (List (S39)) → List (S39) → Bool → Bool → Int → Option ((List (List (S39))))
  | 0, _, _, _, _, _, _, _ => none
  | k + 1, x0, x1, x5, x6, x7, x8, x9 => if x9 < (x0.length : Int) then (if 0 ≤ x9 then (if (rd_T53 x0 x9).f2 = true then (cowrieref08_Fields.j1 k x0 x1 x5 x6 true false x9) else (cowrieref08_Fields.j1 k x0 x1 x5 x6 x7 x8 x9)) else (none)) else (if x7 = true then (if x5.length < 5864062014805 then (some (x5 ++ [x6])) else (none)) else (some x5))
def cowrieref08_Fields.j1 : Nat → List (S53) → ByteArray → List (List (S39)) → List (S39) → Bool → Bool → Int → Option ((List (List (S39))))
  | 0, _, _, _, _, _, _, _ => none
  | k + 1, x0, x1, x5, x6, x7, x8, x9 => cowrieref08_Fields.l1 k x0 x1 x5 x6 x7 x8 x9 0
def cowrieref08_Fields.l1 : Nat → List (S53) → ByteArray → List (List (S39)) → List (S39) → Bool → Bool → Int → Int → Option ((List (List (S39))))
  | 0, _, _, _, _, _, _, _, _ => none
  | k + 1, x0, x1, x5, x6, x7, x8, x9, x10 => if 0 ≤ x9 then (if x9 < (x0.length : Int) then (if x10 < (((rd_T53 x0 x9).f0).length : Int) then (if 0 ≤ x10 then (if (rd_T53 x0 x9).f1 = true then (if ((rd_T39 ((rd_T53 x0 x9).f0) x10).f1 = true) then (cowrieref08_Fields.j3 k x0 x1 x5 x6 x7 x8 x9 x10 false ((rd_T39 ((rd_T53 x0 x9).f0) x10).f0) ((rd_T39 ((rd_T53 x0 x9).f0) x10).f1)) else ((cowrieref08_in.f k x1 ((rd_T39 ((rd_T53 x0 x9).f0) x10).f0)).bind fun t173 => (cowrieref08_Fields.j3 k x0 x1 x5 x6 x7 x8 x9 x10 t173 ((rd_T39 ((rd_T53 x0 x9).f0) x10).f0) ((rd_T39 ((rd_T53 x0 x9).f0) x10).f1)))) else (cowrieref08_Fields.j3 k x0 x1 x5 x6 x7 x8 x9 x10 false ((rd_T39 ((rd_T53 x0 x9).f0) x10).f0) ((rd_T39 ((rd_T53 x0 x9).f0) x10).f1))) else (none)) else (if (rd_T53 x0 x9).f3 = true then (if x5.length < 5864062014805 then (cowrieref08_Fields.l0 k x0 x1 (x5 ++ [x6]) ([] : List (S39)) false false (wrap64 (x9 + 1))) else (none)) else (cowrieref08_Fields.l0 k x0 x1 x5 x6 x7 x8 (wrap64 (x9 + 1))))) else (none)) else (none)
def cowrieref08_Fields.j3 : Nat → List (S53) → ByteArray → List (List (S39)) → List (S39) → Bool → Bool → Int → Int → Bool → Int → Bool → Option ((List (List (S39))))
  | 0, _, _, _, _, _, _, _, _, _, _, _ => none
  | k + 1, x0, x1, x5, x6, x7, x8, x9, x10, x12, x172000, x172001 => if x172000 = 32 then (cowrieref08_Fields.j4 k x0 x1 x5 x6 x7 x8 x9 x10 x12 true x172000 x172001) else (if x172000 = 9 then (cowrieref08_Fields.j4 k x0 x1 x5 x6 x7 x8 x9 x10 x12 true x172000 x172001) else (cowrieref08_Fields.j4 k x0 x1 x5 x6 x7 x8 x9 x10 x12 (x172000 == 10) x172000 x172001))
def cowrieref08_Fields.j4 : Nat → List (S53) → ByteArray → List (List (S39)) → List (S39) → Bool → Bool → Int → Int → Bool → Bool → Int → Bool → Option ((List (List (S39))))
  | 0, _, _, _, _, _, _, _, _, _, _, _, _ => none
  | k + 1, x0, x1, x5, x6, x7, x8, x9, x10, x12, x13, x172000, x172001 => if x12 = true then (if x7 = true then (if x5.length < 5864062014805 then (cowrieref08_Fields.l1 k x0 x1 (x5 ++ [x6]) ([] : List (S39)) false x13 x9 (wrap64 (x10 + 1))) else (none)) else (if x13 = true then (cowrieref08_Fields.l1 k x0 x1 x5 x6 x7 x8 x9 (wrap64 (x10 + 1))) else (if x8 = true then (cowrieref08_Fields.l1 k x0 x1 x5 x6 x7 false x9 (wrap64 (x10 + 1))) else (if x5.length < 5864062014805 then (cowrieref08_Fields.l1 k x0 x1 (x5 ++ [[]]) x6 x7 x8 x9 (wrap64 (x10 + 1))) else (none))))) else (if x6.length < 70368744177664 then (cowrieref08_Fields.l1 k x0 x1 x5 (x6 ++ [(⟨x172000, x172001⟩ : S39)]) true false x9 (wrap64 (x10 + 1))) else (none))
end
def cowrieref08_Fields.f (k : Nat) (l0 : List (S53)) (a1 : ByteArray) : Option ((List (List (S39)))) := cowrieref08_Fields.l0 k l0 a1 ([] : List (List (S39))) ([] : List (S39)) false false 0
theorem cowrieref08_Fields.mono_l : ∀ k, (∀ y0 y1 y2 y3 y4 y5 y6, LeO (cowrieref08_Fields.l0 k y0 y1 y2 y3 y4 y5 y6) (cowrieref08_Fields.l0 (k + 1) y0 y1 y2 y3 y4 y5 y6)) ∧ (∀ y0 y1 y2 y3 y4 y5 y6, LeO (cowrieref08_Fields.j1 k y0 y1 y2 y3 y4 y5 y6) (cowrieref08_Fields.j1 (k + 1) y0 y1 y2 y3 y4 y5 y6)) ∧ (∀ y0 y1 y2 y3 y4 y5 y6 y7, LeO (cowrieref08_Fields.l1 k y0 y1 y2 y3 y4 y5 y6 y7) (cowrieref08_Fields.l1 (k + 1) y0 y1 y2 y3 y4 y5 y6 y7)) ∧ (∀ y0 y1 y2 y3 y4 y5 y6 y7 y8 y9 y10, LeO (cowrieref08_Fields.j3 k y0 y1 y2 y3 y4 y5 y6 y7 y8 y9 y10) (cowrieref08_Fields.j3 (k + 1) y0 y1 y2 y3 y4 y5 y6 y7 y8 y9 y10)) ∧ (∀ y0 y1 y2 y3 y4 y5 y6 y7 y8 y9 y10 y11, LeO (cowrieref08_Fields.j4 k y0 y1 y2 y3 y4 y5 y6 y7 y8 y9 y10 y11) (cowrieref08_Fields.j4 (k + 1) y0 y1 y2 y3 y4 y5 y6 y7 y8 y9 y10 y11))
  | 0 => ⟨fun _ _ _ _ _ _ _ r h => by simp [cowrieref08_Fields.l0] at h, fun _ _ _ _ _ _ _ r h => by simp [cowrieref08_Fields.j1] at h, fun _ _ _ _ _ _ _ _ r h => by simp [cowrieref08_Fields.l1] at h, fun _ _ _ _ _ _ _ _ _ _ _ r h => by simp [cowrieref08_Fields.j3] at h, fun _ _ _ _ _ _ _ _ _ _ _ _ r h => by simp [cowrieref08_Fields.j4] at h⟩
  | k + 1 => by
    obtain ⟨ih0, ih1, ih2, ih3, ih4⟩ := cowrieref08_Fields.mono_l k
    refine ⟨?_, ?_, ?_, ?_, ?_⟩
    · intro y0 y1 y2 y3 y4 y5 y6
      unfold cowrieref08_Fields.l0
      repeat' first
      | (with_reducible exact ih0 _ _ _ _ _ _ _)
      | (with_reducible exact ih1 _ _ _ _ _ _ _)
      | (with_reducible exact ih2 _ _ _ _ _ _ _ _)
      | (with_reducible exact ih3 _ _ _ _ _ _ _ _ _ _ _)
      | (with_reducible exact ih4 _ _ _ _ _ _ _ _ _ _ _ _)
      | (with_reducible exact cowrieref08_in.mono _ _ _)
      | (with_reducible exact LeO.refl _)
      | (with_reducible exact LeO.none _)
      | (with_reducible refine LeO.ite ?_ ?_)
      | (with_reducible refine LeO.bind ?_ (fun _ => ?_))
      | exact ih0 _ _ _ _ _ _ _
      | exact ih1 _ _ _ _ _ _ _
      | exact ih2 _ _ _ _ _ _ _ _
      | exact ih3 _ _ _ _ _ _ _ _ _ _ _
      | exact ih4 _ _ _ _ _ _ _ _ _ _ _ _
      | exact cowrieref08_in.mono _ _ _
      | exact LeO.none _
      | refine LeO.ite ?_ ?_
      | refine LeO.bind ?_ (fun _ => ?_)
    · intro y0 y1 y2 y3 y4 y5 y6
      unfold cowrieref08_Fields.j1
      repeat' first
      | (with_reducible exact ih0 _ _ _ _ _ _ _)
      | (with_reducible exact ih1 _ _ _ _ _ _ _)
      | (with_reducible exact ih2 _ _ _ _ _ _ _ _)
      | (with_reducible exact ih3 _ _ _ _ _ _ _ _ _ _ _)
      | (with_reducible exact ih4 _ _ _ _ _ _ _ _ _ _ _ _)
      | (with_reducible exact cowrieref08_in.mono _ _ _)
      | (with_reducible exact LeO.refl _)
      | (with_reducible exact LeO.none _)
      | (with_reducible refine LeO.ite ?_ ?_)
      | (with_reducible refine LeO.bind ?_ (fun _ => ?_))
      | exact ih0 _ _ _ _ _ _ _
      | exact ih1 _ _ _ _ _ _ _
      | exact ih2 _ _ _ _ _ _ _ _
      | exact ih3 _ _ _ _ _ _ _ _ _ _ _
      | exact ih4 _ _ _ _ _ _ _ _ _ _ _ _
      | exact cowrieref08_in.mono _ _ _
      | exact LeO.none _
      | refine LeO.ite ?_ ?_
      | refine LeO.bind ?_ (fun _ => ?_)
    · intro y0 y1 y2 y3 y4 y5 y6 y7
      unfold cowrieref08_Fields.l1
      repeat' first
      | (with_reducible exact ih0 _ _ _ _ _ _ _)
      | (with_reducible exact ih1 _ _ _ _ _ _ _)
      | (with_reducible exact ih2 _ _ _ _ _ _ _ _)
      | (with_reducible exact ih3 _ _ _ _ _ _ _ _ _ _ _)
      | (with_reducible exact ih4 _ _ _ _ _ _ _ _ _ _ _ _)
      | (with_reducible exact cowrieref08_in.mono _ _ _)
      | (with_reducible exact LeO.refl _)
      | (with_reducible exact LeO.none _)
      | (with_reducible refine LeO.ite ?_ ?_)
      | (with_reducible refine LeO.bind ?_ (fun _ => ?_))
      | exact ih0 _ _ _ _ _ _ _
      | exact ih1 _ _ _ _ _ _ _
      | exact ih2 _ _ _ _ _ _ _ _
      | exact ih3 _ _ _ _ _ _ _ _ _ _ _
      | exact ih4 _ _ _ _ _ _ _ _ _ _ _ _
      | exact cowrieref08_in.mono _ _ _
      | exact LeO.none _
      | refine LeO.ite ?_ ?_
      | refine LeO.bind ?_ (fun _ => ?_)
    · intro y0 y1 y2 y3 y4 y5 y6 y7 y8 y9 y10
      unfold cowrieref08_Fields.j3
      repeat' first
      | (with_reducible exact ih0 _ _ _ _ _ _ _)
      | (with_reducible exact ih1 _ _ _ _ _ _ _)
      | (with_reducible exact ih2 _ _ _ _ _ _ _ _)
      | (with_reducible exact ih3 _ _ _ _ _ _ _ _ _ _ _)
      | (with_reducible exact ih4 _ _ _ _ _ _ _ _ _ _ _ _)
      | (with_reducible exact cowrieref08_in.mono _ _ _)
      | (with_reducible exact LeO.refl _)
      | (with_reducible exact LeO.none _)
      | (with_reducible refine LeO.ite ?_ ?_)
      | (with_reducible refine LeO.bind ?_ (fun _ => ?_))
      | exact ih0 _ _ _ _ _ _ _
      | exact ih1 _ _ _ _ _ _ _
      | exact ih2 _ _ _ _ _ _ _ _
      | exact ih3 _ _ _ _ _ _ _ _ _ _ _
      | exact ih4 _ _ _ _ _ _ _ _ _ _ _ _
      | exact cowrieref08_in.mono _ _ _
      | exact LeO.none _
      | refine LeO.ite ?_ ?_
      | refine LeO.bind ?_ (fun _ => ?_)
    · intro y0 y1 y2 y3 y4 y5 y6 y7 y8 y9 y10 y11
      unfold cowrieref08_Fields.j4
      repeat' first
      | (with_reducible exact ih0 _ _ _ _ _ _ _)
      | (with_reducible exact ih1 _ _ _ _ _ _ _)
      | (with_reducible exact ih2 _ _ _ _ _ _ _ _)
      | (with_reducible exact ih3 _ _ _ _ _ _ _ _ _ _ _)
      | (with_reducible exact ih4 _ _ _ _ _ _ _ _ _ _ _ _)
      | (with_reducible exact cowrieref08_in.mono _ _ _)
      | (with_reducible exact LeO.refl _)
      | (with_reducible exact LeO.none _)
      | (with_reducible refine LeO.ite ?_ ?_)
      | (with_reducible refine LeO.bind ?_ (fun _ => ?_))
      | exact ih0 _ _ _ _ _ _ _
      | exact ih1 _ _ _ _ _ _ _
      | exact ih2 _ _ _ _ _ _ _ _
      | exact ih3 _ _ _ _ _ _ _ _ _ _ _
      | exact ih4 _ _ _ _ _ _ _ _ _ _ _ _
      | exact cowrieref08_in.mono _ _ _
      | exact LeO.none _
      | refine LeO.ite ?_ ?_
      | refine LeO.bind ?_ (fun _ => ?_)
theorem cowrieref08_Fields.mono : ∀ a0 a1 k, LeO (cowrieref08_Fields.f k a0 a1) (cowrieref08_Fields.f (k + 1) a0 a1) := by
  intro a0 a1 k
  obtain ⟨ih0, ih1, ih2, ih3, ih4⟩ := cowrieref08_Fields.mono_l k
  unfold cowrieref08_Fields.f
  repeat' first
      | (with_reducible exact ih0 _ _ _ _ _ _ _)
      | (with_reducible exact ih1 _ _ _ _ _ _ _)
      | (with_reducible exact ih2 _ _ _ _ _ _ _ _)
      | (with_reducible exact ih3 _ _ _ _ _ _ _ _ _ _ _)
      | (with_reducible exact ih4 _ _ _ _ _ _ _ _ _ _ _ _)
      | (with_reducible exact cowrieref08_in.mono _ _ _)
      | (with_reducible exact LeO.refl _)
      | (with_reducible exact LeO.none _)
      | (with_reducible refine LeO.ite ?_ ?_)
      | (with_reducible refine LeO.bind ?_ (fun _ => ?_))
      | exact ih0 _ _ _ _ _ _ _
      | exact ih1 _ _ _ _ _ _ _
      | exact ih2 _ _ _ _ _ _ _ _
      | exact ih3 _ _ _ _ _ _ _ _ _ _ _
      | exact ih4 _ _ _ _ _ _ _ _ _ _ _ _
      | exact cowrieref08_in.mono _ _ _
      | exact LeO.none _
      | refine LeO.ite ?_ ?_
      | refine LeO.bind ?_ (fun _ => ?_)
set_option maxHeartbeats 8000000 in
set_option maxRecDepth 100000 in
theorem cowrieref08_Fields.calls (k : Nat) (A0 : Option Addr) (c0 : Nat) (l0 : List (S53)) (a1 : ByteArray) (r : List (List (S39))) (w : World) (hr0 : Kd.C k53 w A0 l0.length l0) (hc0 : l0.length ≤ c0) (h : cowrieref08_Fields.f k l0 a1 = some r) :
    Calls Tryd.prog 10 #[.slice A0 l0.length c0, .string a1] w fun e w' => ∃ v0_ : Value, e = .returned (v0_) ∧ Kd.S (Kd.slice 39 k39) 40 w' w.heap.size (fun _ => True) v0_ r ∧ Below w.heap.size w w' := by
  have hu39 := Tryd.underlying39
  have HR0 := Aside0.mk hr0
  have HC0 := Aside0.mk hc0
  clear hr0 hc0
  have HB := Aside0.mk (Below.refl w.heap.size w)
  have H : (cowrieref08_Fields.l0 k l0 a1 ([] : List (List (S39))) ([] : List (S39)) false false 0) = some r := h
  clear h
  have H' := Aside0.mk H
  clear H
  go_enter Tryd.func10, Tryd.ntmps10
  go_wp2
  go_loopg [5, 6, 7, 8, 9] k (fun kq v5 v6 v7 v8 v9 w' => ∃ (x5_1 : List (List (S39))) (x6_1 : List (S39)) (x7_1 : Bool) (x8_1 : Bool) (x9_1 : Int), v7 = .bool x7_1 ∧ v8 = .bool x8_1 ∧ v9 = .int .i64 x9_1 ∧ Aside0 (cowrieref08_Fields.l0 kq l0 a1 x5_1 x6_1 x7_1 x8_1 x9_1 = some r) ∧ Aside0 (kq ≤ k) ∧ Aside0 (Kd.S (Kd.slice 39 k39) 40 w' w.heap.size (fun k_ => some k_ ≠ (v6 : Value).ownBlock) v5 x5_1) ∧ Aside0 (Kd.R k39 39 w' w.heap.size (fun _ => True) v6 x6_1) ∧ Aside0 (Below w.heap.size w w'))
  case atStart => exact ⟨(([] : List (List (S39)))), (([] : List (S39))), (false), (false), (0), (by first | rfl | (simp; done) | (simp [*]; done)), (by first | rfl | (simp; done) | (simp [*]; done)), (by first | rfl | (simp; done) | (simp [*]; done)), H', ⟨Nat.le_refl _⟩, ⟨by first | exact Kd.S_nil _ _ _ _ _ | exact Kd.N_nil _ _ _ _ _ | exact Kd.V_nil _ _ _ _ _ | exact Kd.Q_nil _ _ _ _ _ | exact Kd.R_nil _ _ _ _ _⟩, ⟨by first | exact Kd.R_nil _ _ _ _ _ | exact Kd.N_nil _ _ _ _ _ | exact Kd.V_nil _ _ _ _ _ | exact Kd.Q_nil _ _ _ _ _ | exact Kd.S_nil _ _ _ _ _⟩, ⟨by repeat (first | (with_reducible first | exact HB.out | apply below_alloc | apply pw_below_drewN | apply below_drew1) | exact HB.out)⟩⟩
  case round =>
    clear H'
    try clear c1
    try clear p2
    obtain ⟨x5_1, x6_1, x7_1, x8_1, x9_1, rfl, rfl, rfl, HA, HK1, HO_5, HO_6, HB⟩ := hrel
    cases gk with
    | zero => exact absurd HA.out (by simp [cowrieref08_Fields.l0])
    | succ k1 =>
      have H := HA.out
      clear HA
      simp only [cowrieref08_Fields.l0] at H
      by_cases c3 : x9_1 < (l0.length : Int)
      · rw [if_pos c3] at H
        have c3b0 : decide (x9_1 < (l0.length : Int)) = true := decide_eq_true c3
        clear c3
        by_cases c4 : 0 ≤ x9_1
        · rw [if_pos c4] at H
          have c4b0 : decide (0 ≤ x9_1) = true := decide_eq_true c4
          clear c4
          have HC5 := Aside0.mk H
          clear H
          have p163 : 0 ≤ (x9_1 : Int) := of_decide_eq_true (by first | (with_reducible assumption) | assumption)
          have q163 : x9_1 < (l0.length : Int) := of_decide_eq_true (by first | (with_reducible assumption) | assumption)
          obtain ⟨ad163, A163_0, c163_0, e163, hx163_0, hx163_1, hx163_2, hx163_3, hl163_0, hi163_0⟩ := at_T53 HR0.out x9_1 p163 q163
          cases e163
          replace hx163_0 := (HB.out.cell (World.block_lt_of_cell? w _ hx163_0)).trans hx163_0
          replace hx163_1 := (HB.out.cell (World.block_lt_of_cell? w _ hx163_1)).trans hx163_1
          replace hx163_2 := (HB.out.cell (World.block_lt_of_cell? w _ hx163_2)).trans hx163_2
          replace hx163_3 := (HB.out.cell (World.block_lt_of_cell? w _ hx163_3)).trans hx163_3
          have HR163_0 := Aside0.mk hi163_0
          have HC163_0 := Aside0.mk hl163_0
          clear hi163_0 hl163_0
          replace p163 := eq_true p163
          replace q163 := eq_true q163
          go_upto_if 24 with (fail)
          go_cut [7, 8] (fun v7 v8 wc => ∃ (kq : Nat) (x7_4 : Bool) (x8_4 : Bool), v7 = .bool x7_4 ∧ v8 = .bool x8_4 ∧ Aside0 (cowrieref08_Fields.j1 kq l0 a1 x5_1 x6_1 x7_4 x8_4 x9_1 = some r) ∧ Aside0 (kq ≤ k1) ∧ Aside0 (Kd.S (Kd.slice 39 k39) 40 wc w.heap.size (fun k_ => some k_ ≠ (u6 : Value).ownBlock) u5 x5_1) ∧ Aside0 (Kd.R k39 39 wc w.heap.size (fun _ => True) u6 x6_1) ∧ Aside0 (Below w.heap.size w wc))
          case first =>
            have H := HC5.out
            clear HC5
            obtain ⟨bq6, hbq6⟩ : ∃ b_ : Bool, b_ = ((rd_T53 l0 x9_1).f2) := ⟨_, rfl⟩
            replace H : (if bq6 = true then (cowrieref08_Fields.j1 k1 l0 a1 x5_1 x6_1 true false x9_1) else (cowrieref08_Fields.j1 k1 l0 a1 x5_1 x6_1 x7_1 x8_1 x9_1)) = some r := by rw [← hbq6] at H; exact H
            have Nbq6 := Aside0.mk hbq6
            clear hbq6
            (try rw [← Nbq6.out])
            by_cases c7 : bq6 = true
            · subst c7
              have H1 : (cowrieref08_Fields.j1 k1 l0 a1 x5_1 x6_1 true false x9_1) = some r := by rw [if_pos rfl] at H; exact H
              clear H
              have H := H1
              clear H1
              have H' := Aside0.mk H
              clear H
              go_wp2
              go_meet
              case rel => exact ⟨_, (true), (false), (by first | rfl | (simp; done) | (simp [*]; done)), (by first | rfl | (simp; done) | (simp [*]; done)), H', ⟨by have := HK1.out; first | omega | exact Nat.le_refl _⟩, ⟨by (with_reducible repeat (first | apply Kd.S_alloc | apply Kd.S_drewN | apply Kd.S_drew)); exact HO_5.out⟩, ⟨by (with_reducible repeat (first | apply Kd.R_alloc | apply Kd.R_drewN | apply Kd.R_drew)); exact HO_6.out⟩, ⟨by repeat (first | (with_reducible first | exact HB.out | apply below_alloc | apply pw_below_drewN | apply below_drew1) | exact HB.out)⟩⟩
            · replace c7 := Bool.eq_false_iff.mpr c7
              subst c7
              have H1 : (cowrieref08_Fields.j1 k1 l0 a1 x5_1 x6_1 x7_1 x8_1 x9_1) = some r := by rw [if_neg (show ¬ (false = true) by decide)] at H; exact H
              clear H
              have H := H1
              clear H1
              have H' := Aside0.mk H
              clear H
              go_wp2
              go_meet
              case rel => exact ⟨_, (x7_1), (x8_1), (by first | rfl | (simp; done) | (simp [*]; done)), (by first | rfl | (simp; done) | (simp [*]; done)), H', ⟨by have := HK1.out; first | omega | exact Nat.le_refl _⟩, ⟨by (with_reducible repeat (first | apply Kd.S_alloc | apply Kd.S_drewN | apply Kd.S_drew)); exact HO_5.out⟩, ⟨by (with_reducible repeat (first | apply Kd.R_alloc | apply Kd.R_drewN | apply Kd.R_drew)); exact HO_6.out⟩, ⟨by repeat (first | (with_reducible first | exact HB.out | apply below_alloc | apply pw_below_drewN | apply below_drew1) | exact HB.out)⟩⟩
          case rest =>
            clear HC5
            try clear c1
            try clear p1
            try clear q1
            try clear hx1
            try clear p2
            try clear c3
            try clear c3b0
            try clear c4
            try clear c4b0
            try clear q6
            try clear c7
            try clear hx163_0
            try clear hx163_1
            try clear hx163_2
            try clear hx163_3
            try clear p163
            try clear p2
            try clear q163
            obtain ⟨kq, x7_4, x8_4, rfl, rfl, HA, HJ4, HO_5, HO_6, HB⟩ := hcut
            cases kq with
            | zero => exact absurd HA.out (by simp [cowrieref08_Fields.j1])
            | succ kj4 =>
              have H := HA.out
              clear HA
              simp only [cowrieref08_Fields.j1] at H
              have H' := Aside0.mk H
              clear H
              go_wp2
              go_loopg [5, 6, 7, 8, 10] kj4 (fun kq v5 v6 v7 v8 v10 w' => ∃ (x5_3 : List (List (S39))) (x6_3 : List (S39)) (x7_3 : Bool) (x8_3 : Bool) (x10_3 : Int), v7 = .bool x7_3 ∧ v8 = .bool x8_3 ∧ v10 = .int .i64 x10_3 ∧ Aside0 (cowrieref08_Fields.l1 kq l0 a1 x5_3 x6_3 x7_3 x8_3 x9_1 x10_3 = some r) ∧ Aside0 (kq ≤ kj4) ∧ Aside0 (Kd.S (Kd.slice 39 k39) 40 w' w.heap.size (fun k_ => some k_ ≠ (v6 : Value).ownBlock) v5 x5_3) ∧ Aside0 (Kd.R k39 39 w' w.heap.size (fun _ => True) v6 x6_3) ∧ Aside0 (Below w.heap.size w w'))
              case atStart => exact ⟨(x5_1), (x6_1), (x7_4), (x8_4), (0), (by first | rfl | (simp; done) | (simp [*]; done)), (by first | rfl | (simp; done) | (simp [*]; done)), (by first | rfl | (simp; done) | (simp [*]; done)), H', ⟨Nat.le_refl _⟩, ⟨by (with_reducible repeat (first | apply Kd.S_alloc | apply Kd.S_drewN | apply Kd.S_drew)); exact HO_5.out⟩, ⟨by (with_reducible repeat (first | apply Kd.R_alloc | apply Kd.R_drewN | apply Kd.R_drew)); exact HO_6.out⟩, ⟨by repeat (first | (with_reducible first | exact HB.out | apply below_alloc | apply pw_below_drewN | apply below_drew1) | exact HB.out)⟩⟩
              case round =>
                clear H'
                try clear c1
                try clear p1
                try clear q1
                try clear hx1
                try clear p2
                try clear c3
                try clear c3b0
                try clear c4
                try clear c4b0
                try clear q6
                try clear c7
                try clear hx163_0
                try clear hx163_1
                try clear hx163_2
                try clear hx163_3
                try clear p1
                try clear p163
                try clear p2
                try clear q1
                try clear q163
                try clear q6
                obtain ⟨x5_3, x6_3, x7_3, x8_3, x10_3, rfl, rfl, rfl, HA, HK3, HO_5, HO_6, HB⟩ := hrel
                cases gk with
                | zero => exact absurd HA.out (by simp [cowrieref08_Fields.l1])
                | succ k3 =>
                  have H := HA.out
                  clear HA
                  simp only [cowrieref08_Fields.l1] at H
                  by_cases c8 : 0 ≤ x9_1
                  · rw [if_pos c8] at H
                    have c8b0 : decide (0 ≤ x9_1) = true := decide_eq_true c8
                    clear c8
                    by_cases c9 : x9_1 < (l0.length : Int)
                    · rw [if_pos c9] at H
                      have c9b0 : decide (x9_1 < (l0.length : Int)) = true := decide_eq_true c9
                      clear c9
                      by_cases c10 : x10_3 < (((rd_T53 l0 x9_1).f0).length : Int)
                      · rw [if_pos c10] at H
                        have c10b0 : decide (x10_3 < (((rd_T53 l0 x9_1).f0).length : Int)) = true := decide_eq_true c10
                        clear c10
                        by_cases c11 : 0 ≤ x10_3
                        · rw [if_pos c11] at H
                          have c11b0 : decide (0 ≤ x10_3) = true := decide_eq_true c11
                          clear c11
                          have HC12 := Aside0.mk H
                          clear H
                          have p164 : 0 ≤ (x9_1 : Int) := of_decide_eq_true (by first | (with_reducible assumption) | assumption)
                          have q164 : x9_1 < (l0.length : Int) := of_decide_eq_true (by first | (with_reducible assumption) | assumption)
                          obtain ⟨ad164, A164_0, c164_0, e164, hx164_0, hx164_1, hx164_2, hx164_3, hl164_0, hi164_0⟩ := at_T53 HR0.out x9_1 p164 q164
                          obtain rfl : ad163 = ad164 := (by injection e164)
                          replace hx164_0 := (HB.out.cell (World.block_lt_of_cell? w _ hx164_0)).trans hx164_0
                          replace hx164_1 := (HB.out.cell (World.block_lt_of_cell? w _ hx164_1)).trans hx164_1
                          replace hx164_2 := (HB.out.cell (World.block_lt_of_cell? w _ hx164_2)).trans hx164_2
                          replace hx164_3 := (HB.out.cell (World.block_lt_of_cell? w _ hx164_3)).trans hx164_3
                          have HR164_0 := Aside0.mk hi164_0
                          have HC164_0 := Aside0.mk hl164_0
                          clear hi164_0 hl164_0
                          replace p164 := eq_true p164
                          replace q164 := eq_true q164
                          have p169 : 0 ≤ (x9_1 : Int) := of_decide_eq_true (by first | (with_reducible assumption) | assumption)
                          have q169 : x9_1 < (l0.length : Int) := of_decide_eq_true (by first | (with_reducible assumption) | assumption)
                          obtain ⟨ad169, A169_0, c169_0, e169, hx169_0, hx169_1, hx169_2, hx169_3, hl169_0, hi169_0⟩ := at_T53 HR0.out x9_1 p169 q169
                          obtain rfl : ad163 = ad169 := (by injection e169)
                          replace hx169_0 := (HB.out.cell (World.block_lt_of_cell? w _ hx169_0)).trans hx169_0
                          replace hx169_1 := (HB.out.cell (World.block_lt_of_cell? w _ hx169_1)).trans hx169_1
                          replace hx169_2 := (HB.out.cell (World.block_lt_of_cell? w _ hx169_2)).trans hx169_2
                          replace hx169_3 := (HB.out.cell (World.block_lt_of_cell? w _ hx169_3)).trans hx169_3
                          have HR169_0 := Aside0.mk hi169_0
                          have HC169_0 := Aside0.mk hl169_0
                          clear hi169_0 hl169_0
                          replace p169 := eq_true p169
                          replace q169 := eq_true q169
                          have ea_ := Option.some.inj (hx164_0.symm.trans hx169_0)
                          injection ea_ with ea_ en_ ec_
                          subst ea_
                          subst ec_
                          clear en_
                          have p170 : 0 ≤ (x10_3 : Int) := of_decide_eq_true (by first | (with_reducible assumption) | assumption)
                          have q170 : x10_3 < (((rd_T53 l0 x9_1).f0).length : Int) := of_decide_eq_true (by first | (with_reducible assumption) | assumption)
                          obtain ⟨ad170, e170, hx170_0, hx170_1⟩ := at_T39 HR169_0.out x10_3 p170 q170
                          cases e170
                          replace hx170_0 := (HB.out.cell (World.block_lt_of_cell? w _ hx170_0)).trans hx170_0
                          replace hx170_1 := (HB.out.cell (World.block_lt_of_cell? w _ hx170_1)).trans hx170_1
                          replace p170 := eq_true p170
                          replace q170 := eq_true q170
                          go_upto_region 13 with (first | ((with_reducible refine gate_dst (N := 11) rfl ?_); refine box_event ?hg (N := 11) ?hd (cs := #[.int .u8 0, .bool false]) (t := 39) ?hr ?_; (case hd => rfl); (case hg => rfl); (case hr => first | (go_simp; done) | (go_simp; rfl)); intro gb171 hg w13 hbox hb; have n0_ := Aside0.mk (Kd.S_below (Kd.S_elderB (by (with_reducible repeat (first | apply Kd.S_alloc | apply Kd.S_drewN | apply Kd.S_drew)); exact HO_5.out) gb171 (Nat.le_of_eq hg.symm)) hb); have n1_ := Aside0.mk (Kd.R_below (Kd.R_elderB (by (with_reducible repeat (first | apply Kd.R_alloc | apply Kd.R_drewN | apply Kd.R_drew)); exact HO_6.out) gb171 (Nat.le_of_eq hg.symm)) hb); have n2_ := Aside0.mk (below_step (by repeat (first | (with_reducible first | exact HB.out | apply below_alloc | apply pw_below_drewN | apply below_drew1) | exact HB.out)) hb); have n3_ := Aside0.mk (hbox); have n4_ := Aside0.mk ((by rw [hg]; exact (below_size (by repeat (first | (with_reducible first | exact HB.out | apply below_alloc | apply pw_below_drewN | apply below_drew1) | exact HB.out))) : w.heap.size ≤ gb171)); have n5_ := Aside0.mk ((by rw [hg]; exact (below_size (by repeat (first | (with_reducible first | exact HB.out | apply below_alloc | apply pw_below_drewN | apply below_drew1) | exact HB.out))) : w.heap.size ≤ gb171)); clear HO_5; clear HO_6; clear HB; have HO_5 := n0_; have HO_6 := n1_; have HB := n2_; have BK171 := n3_; have GW171 := n4_; have GE171 := n5_; clear n0_ n1_ n2_ n3_ n4_ n5_; clear hb hbox hg; have hcz14_0 : w13.cell? ⟨gb171, 0, none⟩ = some (.int .u8 0) := (blk_cell BK171.out 0).trans rfl; have hcz14_1 : w13.cell? ⟨gb171, 1, none⟩ = some (.bool false) := (blk_cell BK171.out 1).trans rfl; have hfz14_0 := blk_frozen BK171.out 0; have hfz14_1 := blk_frozen BK171.out 1))
                          (try simp only [Act.put, List.setIfInBounds_toArray, List.set_cons_zero, List.set_cons_succ])
                          go_cut [12] (fun v12 wc => ∃ (kq : Nat) (x12_11 : Bool), v12 = .bool x12_11 ∧ Aside0 (cowrieref08_Fields.j3 kq l0 a1 x5_3 x6_3 x7_3 x8_3 x9_1 x10_3 x12_11 ((rd_T39 ((rd_T53 l0 x9_1).f0) x10_3).f0) ((rd_T39 ((rd_T53 l0 x9_1).f0) x10_3).f1) = some r) ∧ Aside0 (kq ≤ k3) ∧ Aside0 (Kd.S (Kd.slice 39 k39) 40 wc w.heap.size (fun k_ => some k_ ≠ (u6 : Value).ownBlock ∧ k_ ≠ gb171) u5 x5_3) ∧ Aside0 (Kd.R k39 39 wc w.heap.size (fun k_ => k_ ≠ gb171) u6 x6_3) ∧ Aside0 (wc.heap[gb171]? = some (.cells #[.int .u8 ((rd_T39 ((rd_T53 l0 x9_1).f0) x10_3).f0), .bool ((rd_T39 ((rd_T53 l0 x9_1).f0) x10_3).f1)] 39 (0, 0))) ∧ Aside0 (Below w.heap.size w wc))
                          case first =>
                            have H := HC12.out
                            clear HC12
                            obtain ⟨bq15, hbq15⟩ : ∃ b_ : Bool, b_ = ((rd_T53 l0 x9_1).f1) := ⟨_, rfl⟩
                            replace H : (if bq15 = true then (if ((rd_T39 ((rd_T53 l0 x9_1).f0) x10_3).f1 = true) then (cowrieref08_Fields.j3 k3 l0 a1 x5_3 x6_3 x7_3 x8_3 x9_1 x10_3 false ((rd_T39 ((rd_T53 l0 x9_1).f0) x10_3).f0) ((rd_T39 ((rd_T53 l0 x9_1).f0) x10_3).f1)) else ((cowrieref08_in.f k3 a1 ((rd_T39 ((rd_T53 l0 x9_1).f0) x10_3).f0)).bind fun t173 => (cowrieref08_Fields.j3 k3 l0 a1 x5_3 x6_3 x7_3 x8_3 x9_1 x10_3 t173 ((rd_T39 ((rd_T53 l0 x9_1).f0) x10_3).f0) ((rd_T39 ((rd_T53 l0 x9_1).f0) x10_3).f1)))) else (cowrieref08_Fields.j3 k3 l0 a1 x5_3 x6_3 x7_3 x8_3 x9_1 x10_3 false ((rd_T39 ((rd_T53 l0 x9_1).f0) x10_3).f0) ((rd_T39 ((rd_T53 l0 x9_1).f0) x10_3).f1))) = some r := by rw [← hbq15] at H; exact H
                            have Nbq15 := Aside0.mk hbq15
                            clear hbq15
                            (try rw [← Nbq15.out])
                            by_cases c16 : bq15 = true
                            · subst c16
                              have H1 : (if ((rd_T39 ((rd_T53 l0 x9_1).f0) x10_3).f1 = true) then (cowrieref08_Fields.j3 k3 l0 a1 x5_3 x6_3 x7_3 x8_3 x9_1 x10_3 false ((rd_T39 ((rd_T53 l0 x9_1).f0) x10_3).f0) ((rd_T39 ((rd_T53 l0 x9_1).f0) x10_3).f1)) else ((cowrieref08_in.f k3 a1 ((rd_T39 ((rd_T53 l0 x9_1).f0) x10_3).f0)).bind fun t173 => (cowrieref08_Fields.j3 k3 l0 a1 x5_3 x6_3 x7_3 x8_3 x9_1 x10_3 t173 ((rd_T39 ((rd_T53 l0 x9_1).f0) x10_3).f0) ((rd_T39 ((rd_T53 l0 x9_1).f0) x10_3).f1)))) = some r := by rw [if_pos rfl] at H; exact H
                              clear H
                              have H := H1
                              clear H1
                              obtain ⟨bq17, hbq17⟩ : ∃ b_ : Bool, b_ = ((rd_T39 ((rd_T53 l0 x9_1).f0) x10_3).f1) := ⟨_, rfl⟩
                              replace H : (if (bq17 = true) then (cowrieref08_Fields.j3 k3 l0 a1 x5_3 x6_3 x7_3 x8_3 x9_1 x10_3 false ((rd_T39 ((rd_T53 l0 x9_1).f0) x10_3).f0) bq17) else ((cowrieref08_in.f k3 a1 ((rd_T39 ((rd_T53 l0 x9_1).f0) x10_3).f0)).bind fun t173 => (cowrieref08_Fields.j3 k3 l0 a1 x5_3 x6_3 x7_3 x8_3 x9_1 x10_3 t173 ((rd_T39 ((rd_T53 l0 x9_1).f0) x10_3).f0) bq17))) = some r := by rw [← hbq17] at H; exact H
                              have Nbq17 := Aside0.mk hbq17
                              (try rw [← Nbq17.out])
                              clear hbq17
                              by_cases c18 : (bq17 = true)
                              · subst c18
                                have H1 : (cowrieref08_Fields.j3 k3 l0 a1 x5_3 x6_3 x7_3 x8_3 x9_1 x10_3 false ((rd_T39 ((rd_T53 l0 x9_1).f0) x10_3).f0) true) = some r := by rw [if_pos rfl] at H; exact H
                                clear H
                                have H := H1
                                clear H1
                                have H' := Aside0.mk H
                                clear H
                                have p172 : 0 ≤ (x9_1 : Int) := of_decide_eq_true (by first | (with_reducible assumption) | assumption)
                                have q172 : x9_1 < (l0.length : Int) := of_decide_eq_true (by first | (with_reducible assumption) | assumption)
                                obtain ⟨ad172, A172_0, c172_0, e172, hx172_0, hx172_1, hx172_2, hx172_3, hl172_0, hi172_0⟩ := at_T53 HR0.out x9_1 p172 q172
                                (try rw [← Nbq15.out] at hx172_1)
                                (try rw [← Nbq17.out] at hx172_1)
                                (try rw [← Nbq15.out] at hx172_2)
                                (try rw [← Nbq17.out] at hx172_2)
                                (try rw [← Nbq15.out] at hx172_3)
                                (try rw [← Nbq17.out] at hx172_3)
                                obtain rfl : ad163 = ad172 := (by injection e172)
                                have hn172_0 : ad163.block ≠ gb171 := Nat.ne_of_lt (Nat.lt_of_lt_of_le (by have := World.block_lt_of_cell? _ _ hx172_0; first | rwa [add_block] at this | exact this) GW171.out)
                                have hn172_1 : ad163.block ≠ gb171 := Nat.ne_of_lt (Nat.lt_of_lt_of_le (by have := World.block_lt_of_cell? _ _ hx172_0; first | rwa [add_block] at this | exact this) GW171.out)
                                replace hx172_0 := (HB.out.cell (World.block_lt_of_cell? w _ hx172_0)).trans hx172_0
                                replace hx172_1 := (HB.out.cell (World.block_lt_of_cell? w _ hx172_1)).trans hx172_1
                                replace hx172_2 := (HB.out.cell (World.block_lt_of_cell? w _ hx172_2)).trans hx172_2
                                replace hx172_3 := (HB.out.cell (World.block_lt_of_cell? w _ hx172_3)).trans hx172_3
                                have HR172_0 := Aside0.mk hi172_0
                                have HC172_0 := Aside0.mk hl172_0
                                clear hi172_0 hl172_0
                                replace hx172_0 := (cell_far (p := ⟨gb171, 0, none⟩) (by first | (rw [add_block]; exact hn172_0) | (show (Addr.add _ _).block ≠ _; rw [add_block]; exact hn172_0) | exact hn172_0) (.int .u8 ((rd_T39 ((rd_T53 l0 x9_1).f0) x10_3).f0))).trans hx172_0
                                replace hx172_1 := (cell_far (p := ⟨gb171, 0, none⟩) (by first | (rw [add_block]; exact hn172_0) | (show (Addr.add _ _).block ≠ _; rw [add_block]; exact hn172_0) | exact hn172_0) (.int .u8 ((rd_T39 ((rd_T53 l0 x9_1).f0) x10_3).f0))).trans hx172_1
                                replace hx172_2 := (cell_far (p := ⟨gb171, 0, none⟩) (by first | (rw [add_block]; exact hn172_0) | (show (Addr.add _ _).block ≠ _; rw [add_block]; exact hn172_0) | exact hn172_0) (.int .u8 ((rd_T39 ((rd_T53 l0 x9_1).f0) x10_3).f0))).trans hx172_2
                                replace hx172_3 := (cell_far (p := ⟨gb171, 0, none⟩) (by first | (rw [add_block]; exact hn172_0) | (show (Addr.add _ _).block ≠ _; rw [add_block]; exact hn172_0) | exact hn172_0) (.int .u8 ((rd_T39 ((rd_T53 l0 x9_1).f0) x10_3).f0))).trans hx172_3
                                replace hx172_0 := (cell_far (p := ⟨gb171, 1, none⟩) (by first | (rw [add_block]; exact hn172_1) | (show (Addr.add _ _).block ≠ _; rw [add_block]; exact hn172_1) | exact hn172_1) (.bool (true))).trans hx172_0
                                replace hx172_1 := (cell_far (p := ⟨gb171, 1, none⟩) (by first | (rw [add_block]; exact hn172_1) | (show (Addr.add _ _).block ≠ _; rw [add_block]; exact hn172_1) | exact hn172_1) (.bool (true))).trans hx172_1
                                replace hx172_2 := (cell_far (p := ⟨gb171, 1, none⟩) (by first | (rw [add_block]; exact hn172_1) | (show (Addr.add _ _).block ≠ _; rw [add_block]; exact hn172_1) | exact hn172_1) (.bool (true))).trans hx172_2
                                replace hx172_3 := (cell_far (p := ⟨gb171, 1, none⟩) (by first | (rw [add_block]; exact hn172_1) | (show (Addr.add _ _).block ≠ _; rw [add_block]; exact hn172_1) | exact hn172_1) (.bool (true))).trans hx172_3
                                clear hn172_0
                                clear hn172_1
                                replace p172 := eq_true p172
                                replace q172 := eq_true q172
                                have hcz19_0 : w13.cell? ⟨gb171, 0, none⟩ = some (.int .u8 0) := (blk_cell BK171.out 0).trans rfl
                                have hcz19_1 : w13.cell? ⟨gb171, 1, none⟩ = some (.bool false) := (blk_cell BK171.out 1).trans rfl
                                have hfz19_0 := blk_frozen BK171.out 0
                                have hfz19_1 := blk_frozen BK171.out 1
                                go_wp2
                                go_meet
                                case rel => (try rw [← Nbq17.out]); exact ⟨_, (false), (by first | rfl | (simp; done) | (simp [*]; done)), H', ⟨by have := HK1.out; have := HJ4.out; have := HK3.out; first | omega | exact Nat.le_refl _⟩, ⟨by (with_reducible repeat (first | apply Kd.S_alloc | apply Kd.S_drewN | apply Kd.S_drew)); exact Kd.S_mono (Kd.S_far (p := ⟨gb171, 1, none⟩) (Kd.S_far (p := ⟨gb171, 0, none⟩) (Kd.S_mono HO_5.out (fun k_ hk => (⟨hk, hk.2⟩ : _ ∧ k_ ≠ gb171))) (fun _ hk => hk.2) (.int .u8 ((rd_T39 ((rd_T53 l0 x9_1).f0) x10_3).f0))) (fun _ hk => hk.2) (.bool (true))) (fun _ hk => ⟨hk.1.1, hk.1.2⟩)⟩, ⟨by (with_reducible repeat (first | apply Kd.R_alloc | apply Kd.R_drewN | apply Kd.R_drew)); exact Kd.R_mono (Kd.R_far (p := ⟨gb171, 1, none⟩) (Kd.R_far (p := ⟨gb171, 0, none⟩) (Kd.R_mono HO_6.out (fun k_ hk => (⟨hk, hk.2⟩ : _ ∧ k_ ≠ gb171))) (fun _ hk => hk.2) (.int .u8 ((rd_T39 ((rd_T53 l0 x9_1).f0) x10_3).f0))) (fun _ hk => hk.2) (.bool (true))) (fun _ hk => hk.1.2)⟩, ⟨by (with_reducible repeat (first | refine blk_drewN ?_ _ | refine blk_drew ?_ | refine blk_alloc ?_ _)); refine blk_put (cs := #[.int .u8 ((rd_T39 ((rd_T53 l0 x9_1).f0) x10_3).f0), .bool false]) ?_ 1 _ rfl; (with_reducible repeat (first | refine blk_drewN ?_ _ | refine blk_drew ?_ | refine blk_alloc ?_ _)); refine blk_put (cs := #[.int .u8 0, .bool false]) ?_ 0 _ rfl; (with_reducible repeat (first | refine blk_drewN ?_ _ | refine blk_drew ?_ | refine blk_alloc ?_ _)); exact BK171.out⟩, ⟨by repeat (first | (with_reducible first | exact HB.out | apply below_alloc | apply pw_below_drewN | apply below_drew1 | refine below_set ?_ GE171.out) | exact HB.out)⟩⟩
                              · replace c18 := Bool.eq_false_iff.mpr c18
                                subst c18
                                have H1 : ((cowrieref08_in.f k3 a1 ((rd_T39 ((rd_T53 l0 x9_1).f0) x10_3).f0)).bind fun t173 => (cowrieref08_Fields.j3 k3 l0 a1 x5_3 x6_3 x7_3 x8_3 x9_1 x10_3 t173 ((rd_T39 ((rd_T53 l0 x9_1).f0) x10_3).f0) false)) = some r := by rw [if_neg (show ¬ (false = true) by decide)] at H; exact H
                                clear H
                                have H := H1
                                clear H1
                                replace H := Option.bind_eq_some_iff.mp H
                                obtain ⟨t173, A200, H⟩ := H
                                replace H : (cowrieref08_Fields.j3 k3 l0 a1 x5_3 x6_3 x7_3 x8_3 x9_1 x10_3 t173 ((rd_T39 ((rd_T53 l0 x9_1).f0) x10_3).f0) false) = some r := H
                                have A20 := Aside0.mk A200
                                clear A200
                                have H' := Aside0.mk H
                                clear H
                                have p172 : 0 ≤ (x9_1 : Int) := of_decide_eq_true (by first | (with_reducible assumption) | assumption)
                                have q172 : x9_1 < (l0.length : Int) := of_decide_eq_true (by first | (with_reducible assumption) | assumption)
                                obtain ⟨ad172, A172_0, c172_0, e172, hx172_0, hx172_1, hx172_2, hx172_3, hl172_0, hi172_0⟩ := at_T53 HR0.out x9_1 p172 q172
                                (try rw [← Nbq15.out] at hx172_1)
                                (try rw [← Nbq17.out] at hx172_1)
                                (try rw [← Nbq15.out] at hx172_2)
                                (try rw [← Nbq17.out] at hx172_2)
                                (try rw [← Nbq15.out] at hx172_3)
                                (try rw [← Nbq17.out] at hx172_3)
                                obtain rfl : ad163 = ad172 := (by injection e172)
                                have hn172_0 : ad163.block ≠ gb171 := Nat.ne_of_lt (Nat.lt_of_lt_of_le (by have := World.block_lt_of_cell? _ _ hx172_0; first | rwa [add_block] at this | exact this) GW171.out)
                                have hn172_1 : ad163.block ≠ gb171 := Nat.ne_of_lt (Nat.lt_of_lt_of_le (by have := World.block_lt_of_cell? _ _ hx172_0; first | rwa [add_block] at this | exact this) GW171.out)
                                replace hx172_0 := (HB.out.cell (World.block_lt_of_cell? w _ hx172_0)).trans hx172_0
                                replace hx172_1 := (HB.out.cell (World.block_lt_of_cell? w _ hx172_1)).trans hx172_1
                                replace hx172_2 := (HB.out.cell (World.block_lt_of_cell? w _ hx172_2)).trans hx172_2
                                replace hx172_3 := (HB.out.cell (World.block_lt_of_cell? w _ hx172_3)).trans hx172_3
                                have HR172_0 := Aside0.mk hi172_0
                                have HC172_0 := Aside0.mk hl172_0
                                clear hi172_0 hl172_0
                                replace hx172_0 := (cell_far (p := ⟨gb171, 0, none⟩) (by first | (rw [add_block]; exact hn172_0) | (show (Addr.add _ _).block ≠ _; rw [add_block]; exact hn172_0) | exact hn172_0) (.int .u8 ((rd_T39 ((rd_T53 l0 x9_1).f0) x10_3).f0))).trans hx172_0
                                replace hx172_1 := (cell_far (p := ⟨gb171, 0, none⟩) (by first | (rw [add_block]; exact hn172_0) | (show (Addr.add _ _).block ≠ _; rw [add_block]; exact hn172_0) | exact hn172_0) (.int .u8 ((rd_T39 ((rd_T53 l0 x9_1).f0) x10_3).f0))).trans hx172_1
                                replace hx172_2 := (cell_far (p := ⟨gb171, 0, none⟩) (by first | (rw [add_block]; exact hn172_0) | (show (Addr.add _ _).block ≠ _; rw [add_block]; exact hn172_0) | exact hn172_0) (.int .u8 ((rd_T39 ((rd_T53 l0 x9_1).f0) x10_3).f0))).trans hx172_2
                                replace hx172_3 := (cell_far (p := ⟨gb171, 0, none⟩) (by first | (rw [add_block]; exact hn172_0) | (show (Addr.add _ _).block ≠ _; rw [add_block]; exact hn172_0) | exact hn172_0) (.int .u8 ((rd_T39 ((rd_T53 l0 x9_1).f0) x10_3).f0))).trans hx172_3
                                replace hx172_0 := (cell_far (p := ⟨gb171, 1, none⟩) (by first | (rw [add_block]; exact hn172_1) | (show (Addr.add _ _).block ≠ _; rw [add_block]; exact hn172_1) | exact hn172_1) (.bool (false))).trans hx172_0
                                replace hx172_1 := (cell_far (p := ⟨gb171, 1, none⟩) (by first | (rw [add_block]; exact hn172_1) | (show (Addr.add _ _).block ≠ _; rw [add_block]; exact hn172_1) | exact hn172_1) (.bool (false))).trans hx172_1
                                replace hx172_2 := (cell_far (p := ⟨gb171, 1, none⟩) (by first | (rw [add_block]; exact hn172_1) | (show (Addr.add _ _).block ≠ _; rw [add_block]; exact hn172_1) | exact hn172_1) (.bool (false))).trans hx172_2
                                replace hx172_3 := (cell_far (p := ⟨gb171, 1, none⟩) (by first | (rw [add_block]; exact hn172_1) | (show (Addr.add _ _).block ≠ _; rw [add_block]; exact hn172_1) | exact hn172_1) (.bool (false))).trans hx172_3
                                clear hn172_0
                                clear hn172_1
                                replace p172 := eq_true p172
                                replace q172 := eq_true q172
                                have hcz21_0 : w13.cell? ⟨gb171, 0, none⟩ = some (.int .u8 0) := (blk_cell BK171.out 0).trans rfl
                                have hcz21_1 : w13.cell? ⟨gb171, 1, none⟩ = some (.bool false) := (blk_cell BK171.out 1).trans rfl
                                have hfz21_0 := blk_frozen BK171.out 0
                                have hfz21_1 := blk_frozen BK171.out 1
                                go_wp2_with (first | (go_at_call 25; (with_reducible refine (cowrieref08_in.calls k3 a1 ((rd_T39 ((rd_T53 l0 x9_1).f0) x10_3).f0) t173 _ A20.out).mono ?_); rintro e w' ⟨rfl, ⟨nd, rfl⟩⟩))
                                go_meet
                                case rel => (try rw [← Nbq17.out]); exact ⟨_, (t173), (by first | rfl | (simp; done) | (simp [*]; done)), H', ⟨by have := HK1.out; have := HJ4.out; have := HK3.out; first | omega | exact Nat.le_refl _⟩, ⟨by (with_reducible repeat (first | apply Kd.S_alloc | apply Kd.S_drewN | apply Kd.S_drew)); exact Kd.S_mono (Kd.S_far (p := ⟨gb171, 1, none⟩) (Kd.S_far (p := ⟨gb171, 0, none⟩) (Kd.S_mono HO_5.out (fun k_ hk => (⟨hk, hk.2⟩ : _ ∧ k_ ≠ gb171))) (fun _ hk => hk.2) (.int .u8 ((rd_T39 ((rd_T53 l0 x9_1).f0) x10_3).f0))) (fun _ hk => hk.2) (.bool (false))) (fun _ hk => ⟨hk.1.1, hk.1.2⟩)⟩, ⟨by (with_reducible repeat (first | apply Kd.R_alloc | apply Kd.R_drewN | apply Kd.R_drew)); exact Kd.R_mono (Kd.R_far (p := ⟨gb171, 1, none⟩) (Kd.R_far (p := ⟨gb171, 0, none⟩) (Kd.R_mono HO_6.out (fun k_ hk => (⟨hk, hk.2⟩ : _ ∧ k_ ≠ gb171))) (fun _ hk => hk.2) (.int .u8 ((rd_T39 ((rd_T53 l0 x9_1).f0) x10_3).f0))) (fun _ hk => hk.2) (.bool (false))) (fun _ hk => hk.1.2)⟩, ⟨by (with_reducible repeat (first | refine blk_drewN ?_ _ | refine blk_drew ?_ | refine blk_alloc ?_ _)); refine blk_put (cs := #[.int .u8 ((rd_T39 ((rd_T53 l0 x9_1).f0) x10_3).f0), .bool false]) ?_ 1 _ rfl; (with_reducible repeat (first | refine blk_drewN ?_ _ | refine blk_drew ?_ | refine blk_alloc ?_ _)); refine blk_put (cs := #[.int .u8 0, .bool false]) ?_ 0 _ rfl; (with_reducible repeat (first | refine blk_drewN ?_ _ | refine blk_drew ?_ | refine blk_alloc ?_ _)); exact BK171.out⟩, ⟨by repeat (first | (with_reducible first | exact HB.out | apply below_alloc | apply pw_below_drewN | apply below_drew1 | refine below_set ?_ GE171.out) | exact HB.out)⟩⟩
                            · replace c16 := Bool.eq_false_iff.mpr c16
                              subst c16
                              have H1 : (cowrieref08_Fields.j3 k3 l0 a1 x5_3 x6_3 x7_3 x8_3 x9_1 x10_3 false ((rd_T39 ((rd_T53 l0 x9_1).f0) x10_3).f0) ((rd_T39 ((rd_T53 l0 x9_1).f0) x10_3).f1)) = some r := by rw [if_neg (show ¬ (false = true) by decide)] at H; exact H
                              clear H
                              have H := H1
                              clear H1
                              have H' := Aside0.mk H
                              clear H
                              have p172 : 0 ≤ (x9_1 : Int) := of_decide_eq_true (by first | (with_reducible assumption) | assumption)
                              have q172 : x9_1 < (l0.length : Int) := of_decide_eq_true (by first | (with_reducible assumption) | assumption)
                              obtain ⟨ad172, A172_0, c172_0, e172, hx172_0, hx172_1, hx172_2, hx172_3, hl172_0, hi172_0⟩ := at_T53 HR0.out x9_1 p172 q172
                              (try rw [← Nbq15.out] at hx172_1)
                              (try rw [← Nbq15.out] at hx172_2)
                              (try rw [← Nbq15.out] at hx172_3)
                              obtain rfl : ad163 = ad172 := (by injection e172)
                              have hn172_0 : ad163.block ≠ gb171 := Nat.ne_of_lt (Nat.lt_of_lt_of_le (by have := World.block_lt_of_cell? _ _ hx172_0; first | rwa [add_block] at this | exact this) GW171.out)
                              have hn172_1 : ad163.block ≠ gb171 := Nat.ne_of_lt (Nat.lt_of_lt_of_le (by have := World.block_lt_of_cell? _ _ hx172_0; first | rwa [add_block] at this | exact this) GW171.out)
                              replace hx172_0 := (HB.out.cell (World.block_lt_of_cell? w _ hx172_0)).trans hx172_0
                              replace hx172_1 := (HB.out.cell (World.block_lt_of_cell? w _ hx172_1)).trans hx172_1
                              replace hx172_2 := (HB.out.cell (World.block_lt_of_cell? w _ hx172_2)).trans hx172_2
                              replace hx172_3 := (HB.out.cell (World.block_lt_of_cell? w _ hx172_3)).trans hx172_3
                              have HR172_0 := Aside0.mk hi172_0
                              have HC172_0 := Aside0.mk hl172_0
                              clear hi172_0 hl172_0
                              replace hx172_0 := (cell_far (p := ⟨gb171, 0, none⟩) (by first | (rw [add_block]; exact hn172_0) | (show (Addr.add _ _).block ≠ _; rw [add_block]; exact hn172_0) | exact hn172_0) (.int .u8 ((rd_T39 ((rd_T53 l0 x9_1).f0) x10_3).f0))).trans hx172_0
                              replace hx172_1 := (cell_far (p := ⟨gb171, 0, none⟩) (by first | (rw [add_block]; exact hn172_0) | (show (Addr.add _ _).block ≠ _; rw [add_block]; exact hn172_0) | exact hn172_0) (.int .u8 ((rd_T39 ((rd_T53 l0 x9_1).f0) x10_3).f0))).trans hx172_1
                              replace hx172_2 := (cell_far (p := ⟨gb171, 0, none⟩) (by first | (rw [add_block]; exact hn172_0) | (show (Addr.add _ _).block ≠ _; rw [add_block]; exact hn172_0) | exact hn172_0) (.int .u8 ((rd_T39 ((rd_T53 l0 x9_1).f0) x10_3).f0))).trans hx172_2
                              replace hx172_3 := (cell_far (p := ⟨gb171, 0, none⟩) (by first | (rw [add_block]; exact hn172_0) | (show (Addr.add _ _).block ≠ _; rw [add_block]; exact hn172_0) | exact hn172_0) (.int .u8 ((rd_T39 ((rd_T53 l0 x9_1).f0) x10_3).f0))).trans hx172_3
                              replace hx172_0 := (cell_far (p := ⟨gb171, 1, none⟩) (by first | (rw [add_block]; exact hn172_1) | (show (Addr.add _ _).block ≠ _; rw [add_block]; exact hn172_1) | exact hn172_1) (.bool ((rd_T39 ((rd_T53 l0 x9_1).f0) x10_3).f1))).trans hx172_0
                              replace hx172_1 := (cell_far (p := ⟨gb171, 1, none⟩) (by first | (rw [add_block]; exact hn172_1) | (show (Addr.add _ _).block ≠ _; rw [add_block]; exact hn172_1) | exact hn172_1) (.bool ((rd_T39 ((rd_T53 l0 x9_1).f0) x10_3).f1))).trans hx172_1
                              replace hx172_2 := (cell_far (p := ⟨gb171, 1, none⟩) (by first | (rw [add_block]; exact hn172_1) | (show (Addr.add _ _).block ≠ _; rw [add_block]; exact hn172_1) | exact hn172_1) (.bool ((rd_T39 ((rd_T53 l0 x9_1).f0) x10_3).f1))).trans hx172_2
                              replace hx172_3 := (cell_far (p := ⟨gb171, 1, none⟩) (by first | (rw [add_block]; exact hn172_1) | (show (Addr.add _ _).block ≠ _; rw [add_block]; exact hn172_1) | exact hn172_1) (.bool ((rd_T39 ((rd_T53 l0 x9_1).f0) x10_3).f1))).trans hx172_3
                              clear hn172_0
                              clear hn172_1
                              replace p172 := eq_true p172
                              replace q172 := eq_true q172
                              go_wp2
                              go_meet
                              case rel => exact ⟨_, (false), (by first | rfl | (simp; done) | (simp [*]; done)), H', ⟨by have := HK1.out; have := HJ4.out; have := HK3.out; first | omega | exact Nat.le_refl _⟩, ⟨by (with_reducible repeat (first | apply Kd.S_alloc | apply Kd.S_drewN | apply Kd.S_drew)); exact Kd.S_mono (Kd.S_far (p := ⟨gb171, 1, none⟩) (Kd.S_far (p := ⟨gb171, 0, none⟩) (Kd.S_mono HO_5.out (fun k_ hk => (⟨hk, hk.2⟩ : _ ∧ k_ ≠ gb171))) (fun _ hk => hk.2) (.int .u8 ((rd_T39 ((rd_T53 l0 x9_1).f0) x10_3).f0))) (fun _ hk => hk.2) (.bool ((rd_T39 ((rd_T53 l0 x9_1).f0) x10_3).f1))) (fun _ hk => ⟨hk.1.1, hk.1.2⟩)⟩, ⟨by (with_reducible repeat (first | apply Kd.R_alloc | apply Kd.R_drewN | apply Kd.R_drew)); exact Kd.R_mono (Kd.R_far (p := ⟨gb171, 1, none⟩) (Kd.R_far (p := ⟨gb171, 0, none⟩) (Kd.R_mono HO_6.out (fun k_ hk => (⟨hk, hk.2⟩ : _ ∧ k_ ≠ gb171))) (fun _ hk => hk.2) (.int .u8 ((rd_T39 ((rd_T53 l0 x9_1).f0) x10_3).f0))) (fun _ hk => hk.2) (.bool ((rd_T39 ((rd_T53 l0 x9_1).f0) x10_3).f1))) (fun _ hk => hk.1.2)⟩, ⟨by (with_reducible repeat (first | refine blk_drewN ?_ _ | refine blk_drew ?_ | refine blk_alloc ?_ _)); refine blk_put (cs := #[.int .u8 ((rd_T39 ((rd_T53 l0 x9_1).f0) x10_3).f0), .bool false]) ?_ 1 _ rfl; (with_reducible repeat (first | refine blk_drewN ?_ _ | refine blk_drew ?_ | refine blk_alloc ?_ _)); refine blk_put (cs := #[.int .u8 0, .bool false]) ?_ 0 _ rfl; (with_reducible repeat (first | refine blk_drewN ?_ _ | refine blk_drew ?_ | refine blk_alloc ?_ _)); exact BK171.out⟩, ⟨by repeat (first | (with_reducible first | exact HB.out | apply below_alloc | apply pw_below_drewN | apply below_drew1 | refine below_set ?_ GE171.out) | exact HB.out)⟩⟩
                          case rest =>
                            clear HC12
                            try clear c1
                            try clear p1
                            try clear q1
                            try clear hx1
                            try clear p2
                            try clear c3
                            try clear c3b0
                            try clear c4
                            try clear c4b0
                            try clear q6
                            try clear c7
                            try clear c8
                            try clear c8b0
                            try clear c9
                            try clear c9b0
                            try clear c10
                            try clear c10b0
                            try clear c11
                            try clear c11b0
                            try clear q15
                            try clear c16
                            try clear p16
                            try clear q16
                            try clear hx16
                            try clear c17
                            try clear p17
                            try clear q17
                            try clear hx17
                            try clear c18
                            try clear hcz14_0
                            try clear hcz14_1
                            try clear hcz19_0
                            try clear hcz19_1
                            try clear hcz21_0
                            try clear hcz21_1
                            try clear hfz14_0
                            try clear hfz14_1
                            try clear hfz19_0
                            try clear hfz19_1
                            try clear hfz21_0
                            try clear hfz21_1
                            try clear hx163_0
                            try clear hx163_1
                            try clear hx163_2
                            try clear hx163_3
                            try clear hx164_0
                            try clear hx164_1
                            try clear hx164_2
                            try clear hx164_3
                            try clear hx169_0
                            try clear hx169_1
                            try clear hx169_2
                            try clear hx169_3
                            try clear hx170_0
                            try clear hx170_1
                            try clear hx172_0
                            try clear hx172_1
                            try clear hx172_2
                            try clear hx172_3
                            try clear p1
                            try clear p163
                            try clear p164
                            try clear p169
                            try clear p170
                            try clear p172
                            try clear p2
                            try clear q1
                            try clear q163
                            try clear q164
                            try clear q169
                            try clear q170
                            try clear q172
                            try clear q6
                            obtain ⟨kq, x12_11, rfl, HA, HJ11, HO_5, HO_6, BK171, HB⟩ := hcut
                            cases kq with
                            | zero => exact absurd HA.out (by simp [cowrieref08_Fields.j3])
                            | succ kj11 =>
                              have H := HA.out
                              clear HA
                              simp only [cowrieref08_Fields.j3] at H
                              have HC22 := Aside0.mk H
                              clear H
                              go_upto_region 14 with (fail)
                              go_cut [13] (fun v13 wc => ∃ (kq : Nat) (x13_21 : Bool), v13 = .bool x13_21 ∧ Aside0 (cowrieref08_Fields.j4 kq l0 a1 x5_3 x6_3 x7_3 x8_3 x9_1 x10_3 x12_11 x13_21 ((rd_T39 ((rd_T53 l0 x9_1).f0) x10_3).f0) ((rd_T39 ((rd_T53 l0 x9_1).f0) x10_3).f1) = some r) ∧ Aside0 (kq ≤ kj11) ∧ Aside0 (Kd.S (Kd.slice 39 k39) 40 wc w.heap.size (fun k_ => some k_ ≠ (u6 : Value).ownBlock ∧ k_ ≠ gb171) u5 x5_3) ∧ Aside0 (Kd.R k39 39 wc w.heap.size (fun k_ => k_ ≠ gb171) u6 x6_3) ∧ Aside0 (wc.heap[gb171]? = some (.cells #[.int .u8 ((rd_T39 ((rd_T53 l0 x9_1).f0) x10_3).f0), .bool ((rd_T39 ((rd_T53 l0 x9_1).f0) x10_3).f1)] 39 (0, 0))) ∧ Aside0 (Below w.heap.size w wc))
                              case first =>
                                have H := HC22.out
                                clear HC22
                                by_cases c23 : ((rd_T39 ((rd_T53 l0 x9_1).f0) x10_3).f0) = 32
                                · rw [if_pos c23] at H
                                  have c23b0 : (((rd_T39 ((rd_T53 l0 x9_1).f0) x10_3).f0) == 32) = true := beq_iff_eq.mpr c23
                                  have c23b1 : (((rd_T39 ((rd_T53 l0 x9_1).f0) x10_3).f0) != 32) = false := bne_eq_false_iff_eq.mpr c23
                                  clear c23
                                  (first | rw [c23b0] | (simp only [i64_w, i32_w]; rw [c23b0]) | skip)
                                  have H' := Aside0.mk H
                                  clear H
                                  have hcz24_0 : wc.cell? ⟨gb171, 0, none⟩ = some (.int .u8 ((rd_T39 ((rd_T53 l0 x9_1).f0) x10_3).f0)) := (blk_cell BK171.out 0).trans rfl
                                  have hcz24_1 : wc.cell? ⟨gb171, 1, none⟩ = some (.bool ((rd_T39 ((rd_T53 l0 x9_1).f0) x10_3).f1)) := (blk_cell BK171.out 1).trans rfl
                                  have hfz24_0 := blk_frozen BK171.out 0
                                  have hfz24_1 := blk_frozen BK171.out 1
                                  go_wp2
                                  go_meet
                                  case rel => exact ⟨_, (true), (by first | rfl | (simp; done) | (simp [*]; done)), H', ⟨by have := HK1.out; have := HJ4.out; have := HK3.out; have := HJ11.out; first | omega | exact Nat.le_refl _⟩, ⟨by (with_reducible repeat (first | apply Kd.S_alloc | apply Kd.S_drewN | apply Kd.S_drew)); exact HO_5.out⟩, ⟨by (with_reducible repeat (first | apply Kd.R_alloc | apply Kd.R_drewN | apply Kd.R_drew)); exact HO_6.out⟩, ⟨by (with_reducible repeat (first | refine blk_drewN ?_ _ | refine blk_drew ?_ | refine blk_alloc ?_ _)); exact BK171.out⟩, ⟨by repeat (first | (with_reducible first | exact HB.out | apply below_alloc | apply pw_below_drewN | apply below_drew1 | refine below_set ?_ GE171.out) | exact HB.out)⟩⟩
                                · rw [if_neg c23] at H
                                  have c23b0 : (((rd_T39 ((rd_T53 l0 x9_1).f0) x10_3).f0) == 32) = false := beq_eq_false_iff_ne.mpr c23
                                  have c23b1 : (((rd_T39 ((rd_T53 l0 x9_1).f0) x10_3).f0) != 32) = true := bne_iff_ne.mpr c23
                                  (first | rw [c23b0] | (simp only [i64_w, i32_w]; rw [c23b0]) | skip)
                                  by_cases c25 : ((rd_T39 ((rd_T53 l0 x9_1).f0) x10_3).f0) = 9
                                  · rw [if_pos c25] at H
                                    have c25b0 : (((rd_T39 ((rd_T53 l0 x9_1).f0) x10_3).f0) == 9) = true := beq_iff_eq.mpr c25
                                    have c25b1 : (((rd_T39 ((rd_T53 l0 x9_1).f0) x10_3).f0) != 9) = false := bne_eq_false_iff_eq.mpr c25
                                    clear c25
                                    have H' := Aside0.mk H
                                    clear H
                                    have hcz26_0 : wc.cell? ⟨gb171, 0, none⟩ = some (.int .u8 ((rd_T39 ((rd_T53 l0 x9_1).f0) x10_3).f0)) := (blk_cell BK171.out 0).trans rfl
                                    have hcz26_1 : wc.cell? ⟨gb171, 1, none⟩ = some (.bool ((rd_T39 ((rd_T53 l0 x9_1).f0) x10_3).f1)) := (blk_cell BK171.out 1).trans rfl
                                    have hfz26_0 := blk_frozen BK171.out 0
                                    have hfz26_1 := blk_frozen BK171.out 1
                                    go_wp2
                                    go_meet
                                    case rel => exact ⟨_, (true), (by first | rfl | (simp; done) | (simp [*]; done)), H', ⟨by have := HK1.out; have := HJ4.out; have := HK3.out; have := HJ11.out; first | omega | exact Nat.le_refl _⟩, ⟨by (with_reducible repeat (first | apply Kd.S_alloc | apply Kd.S_drewN | apply Kd.S_drew)); exact HO_5.out⟩, ⟨by (with_reducible repeat (first | apply Kd.R_alloc | apply Kd.R_drewN | apply Kd.R_drew)); exact HO_6.out⟩, ⟨by (with_reducible repeat (first | refine blk_drewN ?_ _ | refine blk_drew ?_ | refine blk_alloc ?_ _)); exact BK171.out⟩, ⟨by repeat (first | (with_reducible first | exact HB.out | apply below_alloc | apply pw_below_drewN | apply below_drew1 | refine below_set ?_ GE171.out) | exact HB.out)⟩⟩
                                  · rw [if_neg c25] at H
                                    have c25b0 : (((rd_T39 ((rd_T53 l0 x9_1).f0) x10_3).f0) == 9) = false := beq_eq_false_iff_ne.mpr c25
                                    have c25b1 : (((rd_T39 ((rd_T53 l0 x9_1).f0) x10_3).f0) != 9) = true := bne_iff_ne.mpr c25
                                    have H' := Aside0.mk H
                                    clear H
                                    have hcz27_0 : wc.cell? ⟨gb171, 0, none⟩ = some (.int .u8 ((rd_T39 ((rd_T53 l0 x9_1).f0) x10_3).f0)) := (blk_cell BK171.out 0).trans rfl
                                    have hcz27_1 : wc.cell? ⟨gb171, 1, none⟩ = some (.bool ((rd_T39 ((rd_T53 l0 x9_1).f0) x10_3).f1)) := (blk_cell BK171.out 1).trans rfl
                                    have hfz27_0 := blk_frozen BK171.out 0
                                    have hfz27_1 := blk_frozen BK171.out 1
                                    go_wp2
                                    go_meet
                                    case rel => exact ⟨_, ((((rd_T39 ((rd_T53 l0 x9_1).f0) x10_3).f0) == 10)), (by first | rfl | (simp; done) | (simp [*]; done)), H', ⟨by have := HK1.out; have := HJ4.out; have := HK3.out; have := HJ11.out; first | omega | exact Nat.le_refl _⟩, ⟨by (with_reducible repeat (first | apply Kd.S_alloc | apply Kd.S_drewN | apply Kd.S_drew)); exact HO_5.out⟩, ⟨by (with_reducible repeat (first | apply Kd.R_alloc | apply Kd.R_drewN | apply Kd.R_drew)); exact HO_6.out⟩, ⟨by (with_reducible repeat (first | refine blk_drewN ?_ _ | refine blk_drew ?_ | refine blk_alloc ?_ _)); exact BK171.out⟩, ⟨by repeat (first | (with_reducible first | exact HB.out | apply below_alloc | apply pw_below_drewN | apply below_drew1 | refine below_set ?_ GE171.out) | exact HB.out)⟩⟩
                              case rest =>
                                clear HC22
                                try clear c1
                                try clear p1
                                try clear q1
                                try clear hx1
                                try clear c2
                                try clear p2
                                try clear c3
                                try clear c3b0
                                try clear c4
                                try clear c4b0
                                try clear q6
                                try clear c7
                                try clear c8
                                try clear c8b0
                                try clear c9
                                try clear c9b0
                                try clear c10
                                try clear c10b0
                                try clear c11
                                try clear c11b0
                                try clear q15
                                try clear c16
                                try clear p16
                                try clear q16
                                try clear hx16
                                try clear c17
                                try clear p17
                                try clear q17
                                try clear hx17
                                try clear c18
                                try clear c23
                                try clear c23b0
                                try clear c23b1
                                try clear c25
                                try clear c25b0
                                try clear c25b1
                                try clear hcz14_0
                                try clear hcz14_1
                                try clear hcz19_0
                                try clear hcz19_1
                                try clear hcz21_0
                                try clear hcz21_1
                                try clear hcz24_0
                                try clear hcz24_1
                                try clear hcz26_0
                                try clear hcz26_1
                                try clear hcz27_0
                                try clear hcz27_1
                                try clear hfz14_0
                                try clear hfz14_1
                                try clear hfz19_0
                                try clear hfz19_1
                                try clear hfz21_0
                                try clear hfz21_1
                                try clear hfz24_0
                                try clear hfz24_1
                                try clear hfz26_0
                                try clear hfz26_1
                                try clear hfz27_0
                                try clear hfz27_1
                                try clear hx163_0
                                try clear hx163_1
                                try clear hx163_2
                                try clear hx163_3
                                try clear hx164_0
                                try clear hx164_1
                                try clear hx164_2
                                try clear hx164_3
                                try clear hx169_0
                                try clear hx169_1
                                try clear hx169_2
                                try clear hx169_3
                                try clear hx170_0
                                try clear hx170_1
                                try clear hx172_0
                                try clear hx172_1
                                try clear hx172_2
                                try clear hx172_3
                                try clear p1
                                try clear p16
                                try clear p163
                                try clear p164
                                try clear p169
                                try clear p17
                                try clear p170
                                try clear p172
                                try clear p2
                                try clear q1
                                try clear q15
                                try clear q16
                                try clear q163
                                try clear q164
                                try clear q169
                                try clear q17
                                try clear q170
                                try clear q172
                                try clear q6
                                obtain ⟨kq, x13_21, rfl, HA, HJ21, HO_5, HO_6, BK171, HB⟩ := hcut
                                cases kq with
                                | zero => exact absurd HA.out (by simp [cowrieref08_Fields.j4])
                                | succ kj21 =>
                                  have H := HA.out
                                  clear HA
                                  simp only [cowrieref08_Fields.j4] at H
                                  by_cases c28 : x12_11 = true
                                  · subst c28
                                    have H1 : (if x7_3 = true then (if x5_3.length < 5864062014805 then (cowrieref08_Fields.l1 kj21 l0 a1 (x5_3 ++ [x6_3]) ([] : List (S39)) false x13_21 x9_1 (wrap64 (x10_3 + 1))) else (none)) else (if x13_21 = true then (cowrieref08_Fields.l1 kj21 l0 a1 x5_3 x6_3 x7_3 x8_3 x9_1 (wrap64 (x10_3 + 1))) else (if x8_3 = true then (cowrieref08_Fields.l1 kj21 l0 a1 x5_3 x6_3 x7_3 false x9_1 (wrap64 (x10_3 + 1))) else (if x5_3.length < 5864062014805 then (cowrieref08_Fields.l1 kj21 l0 a1 (x5_3 ++ [[]]) x6_3 x7_3 x8_3 x9_1 (wrap64 (x10_3 + 1))) else (none))))) = some r := by rw [if_pos rfl] at H; exact H
                                    clear H
                                    have H := H1
                                    clear H1
                                    by_cases c29 : x7_3 = true
                                    · subst c29
                                      have H1 : (if x5_3.length < 5864062014805 then (cowrieref08_Fields.l1 kj21 l0 a1 (x5_3 ++ [x6_3]) ([] : List (S39)) false x13_21 x9_1 (wrap64 (x10_3 + 1))) else (none)) = some r := by rw [if_pos rfl] at H; exact H
                                      clear H
                                      have H := H1
                                      clear H1
                                      by_cases c30 : x5_3.length < 5864062014805
                                      · rw [if_pos c30] at H
                                        have LMc30 := Aside0.mk c30
                                        clear c30
                                        obtain ⟨y174, hy174⟩ : ∃ y_ : List (List (S39)), y_ = (x5_3 ++ [x6_3]) := ⟨_, rfl⟩
                                        replace H : (cowrieref08_Fields.l1 kj21 l0 a1 y174 ([] : List (S39)) false x13_21 x9_1 (wrap64 (x10_3 + 1))) = some r := by first | (rw [hy174]; with_reducible exact H) | (have H2_ := (Option.bind_some _ _).symm.trans H; rw [hy174]; with_reducible exact H2_) | (have H2_ := (Option.bind_some _ _).symm.trans H; with_reducible exact H2_) | with_reducible exact H | (rw [hy174]; exact H) | exact H
                                        have Ny174 := Aside0.mk hy174
                                        clear hy174
                                        have H' := Aside0.mk H
                                        clear H
                                        obtain ⟨Ao32, co32, eo32⟩ := Kd.R_slice HO_6.out
                                        subst eo32
                                        go_wp2_with (first | ((with_reducible refine gate_builtin (b := .append) (xs := #[.tmp 84, .tmp 86]) rfl ?_); at_builtin; refine Kd.S_append (Kd.slice 39 k39) (w0 := w) w.heap.size rfl (.tmp 84) (.tmp 86) 28 40 (.slice none 0 0) 24 rfl Tryd.underlying28 info40 rfl (by decide) (by omega) u5 x5_3 x6_3 [.slice Ao32 x6_3.length co32] (fun k_ => k_ ≠ gb171) (fun k_ => some k_ = (.slice Ao32 x6_3.length co32 : Value).ownBlock) rfl rfl ?aP (fun k_ hk_ => ((Kd.R_mono (ok' := fun k_ => ((fun k_ => k_ ≠ gb171)) k_ ∧ some k_ ≠ (u5 : Value).ownBlock) (Kd.R_apart' (HO_6.out) (Kd.S_typed HO_5.out) (by decide)) (fun k_ hk => ⟨hk.1, hk.2⟩))).1 k_ hk_.symm) ?aF ?aO ?aB ?aS ?aL ?_; (case aP => exact Kd.M_row (Kd.R_mono (Kd.R_tight rfl (Kd.R_mono (ok' := fun k_ => ((fun k_ => k_ ≠ gb171)) k_ ∧ some k_ ≠ (u5 : Value).ownBlock) (Kd.R_apart' (HO_6.out) (Kd.S_typed HO_5.out) (by decide)) (fun k_ hk => ⟨hk.1, hk.2⟩))) (fun _ h_ => h_))); (case aB => exact (by repeat (first | (with_reducible first | exact HB.out | apply below_alloc | apply pw_below_drewN | apply below_drew1 | refine below_set ?_ GE171.out) | exact HB.out))); (case aF => exact (fun k_ hk => Kd.freshB (g := gb171) (o := .cells #[.int .u8 ((rd_T39 ((rd_T53 l0 x9_1).f0) x10_3).f0), .bool ((rd_T39 ((rd_T53 l0 x9_1).f0) x10_3).f1)] 39 (0, 0)) (by (with_reducible repeat (first | refine blk_drewN ?_ _ | refine blk_drew ?_ | refine blk_alloc ?_ _)); exact BK171.out) k_ hk)); (case aO => exact (by (with_reducible repeat (first | apply Kd.S_alloc | apply Kd.S_drewN | apply Kd.S_drew)); exact Kd.S_mono HO_5.out (fun k_ hk => ⟨hk.2, fun e_ => hk.1 e_⟩))); (case aS => exact (below_size (by repeat (first | (with_reducible first | exact HB.out | apply below_alloc | apply pw_below_drewN | apply below_drew1 | refine below_set ?_ GE171.out) | exact HB.out)))); (case aL => have := LMc30.out; omega); intro v175 w31 ho hb hg hat; rw [← Ny174.out] at ho; have n0_ := Aside0.mk (blk_grown (g := gb171) (o := .cells #[.int .u8 ((rd_T39 ((rd_T53 l0 x9_1).f0) x10_3).f0), .bool ((rd_T39 ((rd_T53 l0 x9_1).f0) x10_3).f1)] 39 (0, 0)) (by (with_reducible repeat (first | refine blk_drewN ?_ _ | refine blk_drew ?_ | refine blk_alloc ?_ _)); exact BK171.out) hg (Kd.S_ne HO_5.out BK171.out (by decide))); have n1_ := Aside0.mk (hb); have n2_ := Aside0.mk (ho); clear BK171; clear HB; clear HO_5; clear HO_6; have BK171 := n0_; have HB := n1_; have HO176 := n2_; clear n0_ n1_ n2_; clear ho hb hg hat))
                                        go_roundg kj21
                                        case measure => have := HK1.out; have := HJ4.out; have := HK3.out; have := HJ11.out; have := HJ21.out; omega
                                        case rel => exact ⟨(y174), (([] : List (S39))), (false), (x13_21), (wrap64 (x10_3 + 1)), (by first | rfl | (simp; done) | (simp [*]; done)), (by first | rfl | (simp; done) | (simp [*]; done)), (by first | rfl | (simp; done) | (simp [*]; done)), H', ⟨by have := HK1.out; have := HJ4.out; have := HK3.out; have := HJ11.out; have := HJ21.out; omega⟩, ⟨by (with_reducible repeat (first | apply Kd.S_alloc | apply Kd.S_drewN | apply Kd.S_drew)); exact Kd.S_mono HO176.out (fun _ hk => (by simp [Value.ownBlock]))⟩, ⟨by first | exact Kd.R_nil _ _ _ _ _ | exact Kd.N_nil _ _ _ _ _ | exact Kd.V_nil _ _ _ _ _ | exact Kd.Q_nil _ _ _ _ _ | exact Kd.S_nil _ _ _ _ _⟩, ⟨by repeat (first | (with_reducible first | exact HB.out | apply below_alloc | apply pw_below_drewN | apply below_drew1 | refine below_set ?_ GE171.out) | exact HB.out)⟩⟩
                                      · rw [if_neg c30] at H
                                        exact absurd H (by simp)
                                    · replace c29 := Bool.eq_false_iff.mpr c29
                                      subst c29
                                      have H1 : (if x13_21 = true then (cowrieref08_Fields.l1 kj21 l0 a1 x5_3 x6_3 false x8_3 x9_1 (wrap64 (x10_3 + 1))) else (if x8_3 = true then (cowrieref08_Fields.l1 kj21 l0 a1 x5_3 x6_3 false false x9_1 (wrap64 (x10_3 + 1))) else (if x5_3.length < 5864062014805 then (cowrieref08_Fields.l1 kj21 l0 a1 (x5_3 ++ [[]]) x6_3 false x8_3 x9_1 (wrap64 (x10_3 + 1))) else (none)))) = some r := by rw [if_neg (show ¬ (false = true) by decide)] at H; exact H
                                      clear H
                                      have H := H1
                                      clear H1
                                      by_cases c33 : x13_21 = true
                                      · subst c33
                                        have H1 : (cowrieref08_Fields.l1 kj21 l0 a1 x5_3 x6_3 false x8_3 x9_1 (wrap64 (x10_3 + 1))) = some r := by rw [if_pos rfl] at H; exact H
                                        clear H
                                        have H := H1
                                        clear H1
                                        have H' := Aside0.mk H
                                        clear H
                                        go_wp2
                                        go_roundg kj21
                                        case measure => have := HK1.out; have := HJ4.out; have := HK3.out; have := HJ11.out; have := HJ21.out; omega
                                        case rel => exact ⟨(x5_3), (x6_3), (false), (x8_3), (wrap64 (x10_3 + 1)), (by first | rfl | (simp; done) | (simp [*]; done)), (by first | rfl | (simp; done) | (simp [*]; done)), (by first | rfl | (simp; done) | (simp [*]; done)), H', ⟨by have := HK1.out; have := HJ4.out; have := HK3.out; have := HJ11.out; have := HJ21.out; omega⟩, ⟨by (with_reducible repeat (first | apply Kd.S_alloc | apply Kd.S_drewN | apply Kd.S_drew)); exact Kd.S_mono HO_5.out (fun _ hk => hk.1)⟩, ⟨by (with_reducible repeat (first | apply Kd.R_alloc | apply Kd.R_drewN | apply Kd.R_drew)); exact Kd.R_mono HO_6.out (fun _ hk => trivial)⟩, ⟨by repeat (first | (with_reducible first | exact HB.out | apply below_alloc | apply pw_below_drewN | apply below_drew1 | refine below_set ?_ GE171.out) | exact HB.out)⟩⟩
                                      · replace c33 := Bool.eq_false_iff.mpr c33
                                        subst c33
                                        have H1 : (if x8_3 = true then (cowrieref08_Fields.l1 kj21 l0 a1 x5_3 x6_3 false false x9_1 (wrap64 (x10_3 + 1))) else (if x5_3.length < 5864062014805 then (cowrieref08_Fields.l1 kj21 l0 a1 (x5_3 ++ [[]]) x6_3 false x8_3 x9_1 (wrap64 (x10_3 + 1))) else (none))) = some r := by rw [if_neg (show ¬ (false = true) by decide)] at H; exact H
                                        clear H
                                        have H := H1
                                        clear H1
                                        by_cases c34 : x8_3 = true
                                        · subst c34
                                          have H1 : (cowrieref08_Fields.l1 kj21 l0 a1 x5_3 x6_3 false false x9_1 (wrap64 (x10_3 + 1))) = some r := by rw [if_pos rfl] at H; exact H
                                          clear H
                                          have H := H1
                                          clear H1
                                          have H' := Aside0.mk H
                                          clear H
                                          go_wp2
                                          go_roundg kj21
                                          case measure => have := HK1.out; have := HJ4.out; have := HK3.out; have := HJ11.out; have := HJ21.out; omega
                                          case rel => exact ⟨(x5_3), (x6_3), (false), (false), (wrap64 (x10_3 + 1)), (by first | rfl | (simp; done) | (simp [*]; done)), (by first | rfl | (simp; done) | (simp [*]; done)), (by first | rfl | (simp; done) | (simp [*]; done)), H', ⟨by have := HK1.out; have := HJ4.out; have := HK3.out; have := HJ11.out; have := HJ21.out; omega⟩, ⟨by (with_reducible repeat (first | apply Kd.S_alloc | apply Kd.S_drewN | apply Kd.S_drew)); exact Kd.S_mono HO_5.out (fun _ hk => hk.1)⟩, ⟨by (with_reducible repeat (first | apply Kd.R_alloc | apply Kd.R_drewN | apply Kd.R_drew)); exact Kd.R_mono HO_6.out (fun _ hk => trivial)⟩, ⟨by repeat (first | (with_reducible first | exact HB.out | apply below_alloc | apply pw_below_drewN | apply below_drew1 | refine below_set ?_ GE171.out) | exact HB.out)⟩⟩
                                        · replace c34 := Bool.eq_false_iff.mpr c34
                                          subst c34
                                          have H1 : (if x5_3.length < 5864062014805 then (cowrieref08_Fields.l1 kj21 l0 a1 (x5_3 ++ [[]]) x6_3 false false x9_1 (wrap64 (x10_3 + 1))) else (none)) = some r := by rw [if_neg (show ¬ (false = true) by decide)] at H; exact H
                                          clear H
                                          have H := H1
                                          clear H1
                                          by_cases c35 : x5_3.length < 5864062014805
                                          · rw [if_pos c35] at H
                                            have LMc35 := Aside0.mk c35
                                            clear c35
                                            obtain ⟨y177, hy177⟩ : ∃ y_ : List (List (S39)), y_ = (x5_3 ++ [[]]) := ⟨_, rfl⟩
                                            replace H : (cowrieref08_Fields.l1 kj21 l0 a1 y177 x6_3 false false x9_1 (wrap64 (x10_3 + 1))) = some r := by first | (rw [hy177]; with_reducible exact H) | (have H2_ := (Option.bind_some _ _).symm.trans H; rw [hy177]; with_reducible exact H2_) | (have H2_ := (Option.bind_some _ _).symm.trans H; with_reducible exact H2_) | with_reducible exact H | (rw [hy177]; exact H) | exact H
                                            have Ny177 := Aside0.mk hy177
                                            clear hy177
                                            have H' := Aside0.mk H
                                            clear H
                                            go_wp2_with (first | ((with_reducible refine gate_builtin (b := .append) (xs := #[.tmp 72, .tmp 73]) rfl ?_); at_builtin; refine Kd.S_append (Kd.slice 39 k39) (w0 := w) w.heap.size rfl (.tmp 72) (.tmp 73) 28 40 (.slice none 0 0) 24 rfl Tryd.underlying28 info40 rfl (by decide) (by omega) u5 x5_3 [] [.slice none 0 0] (fun k_ => some k_ ≠ (u6 : Value).ownBlock ∧ k_ ≠ gb171) (fun _ => False) rfl rfl ?aP (fun _ hk => hk.elim) ?aF ?aO ?aB ?aS ?aL ?_; (case aP => exact ⟨_, rfl, Kd.R_nil _ _ _ _ _⟩); (case aB => exact (by repeat (first | (with_reducible first | exact HB.out | apply below_alloc | apply pw_below_drewN | apply below_drew1 | refine below_set ?_ GE171.out) | exact HB.out))); (case aF => exact (fun k_ hk => ⟨Kd.fresh' (Kd.R_lt (by (with_reducible repeat (first | apply Kd.R_alloc | apply Kd.R_drewN | apply Kd.R_drew)); exact HO_6.out)) k_ hk, Kd.freshB (g := gb171) (o := .cells #[.int .u8 ((rd_T39 ((rd_T53 l0 x9_1).f0) x10_3).f0), .bool ((rd_T39 ((rd_T53 l0 x9_1).f0) x10_3).f1)] 39 (0, 0)) (by (with_reducible repeat (first | refine blk_drewN ?_ _ | refine blk_drew ?_ | refine blk_alloc ?_ _)); exact BK171.out) k_ hk⟩)); (case aO => exact (by (with_reducible repeat (first | apply Kd.S_alloc | apply Kd.S_drewN | apply Kd.S_drew)); exact Kd.S_mono HO_5.out (fun k_ hk => ⟨⟨hk.1, hk.2⟩, fun e_ => e_⟩))); (case aS => exact (below_size (by repeat (first | (with_reducible first | exact HB.out | apply below_alloc | apply pw_below_drewN | apply below_drew1 | refine below_set ?_ GE171.out) | exact HB.out)))); (case aL => have := LMc35.out; omega); intro v178 w36 ho hb hg hat; rw [← Ny177.out] at ho; have n0_ := Aside0.mk (Kd.R_over' (by (with_reducible repeat (first | apply Kd.R_alloc | apply Kd.R_drewN | apply Kd.R_drew)); exact HO_6.out) (Kd.S_typed (by (with_reducible repeat (first | apply Kd.S_alloc | apply Kd.S_drewN | apply Kd.S_drew)); exact HO_5.out)) (by decide) hg); have n1_ := Aside0.mk (blk_grown (g := gb171) (o := .cells #[.int .u8 ((rd_T39 ((rd_T53 l0 x9_1).f0) x10_3).f0), .bool ((rd_T39 ((rd_T53 l0 x9_1).f0) x10_3).f1)] 39 (0, 0)) (by (with_reducible repeat (first | refine blk_drewN ?_ _ | refine blk_drew ?_ | refine blk_alloc ?_ _)); exact BK171.out) hg (Kd.S_ne HO_5.out BK171.out (by decide))); have n2_ := Aside0.mk (hb); have n3_ := Aside0.mk (ho); clear HO_6; clear BK171; clear HB; clear HO_5; have HO_6 := n0_; have BK171 := n1_; have HB := n2_; have HO179 := n3_; clear n0_ n1_ n2_ n3_; clear ho hb hg hat))
                                            go_roundg kj21
                                            case measure => have := HK1.out; have := HJ4.out; have := HK3.out; have := HJ11.out; have := HJ21.out; omega
                                            case rel => exact ⟨(y177), (x6_3), (false), (false), (wrap64 (x10_3 + 1)), (by first | rfl | (simp; done) | (simp [*]; done)), (by first | rfl | (simp; done) | (simp [*]; done)), (by first | rfl | (simp; done) | (simp [*]; done)), H', ⟨by have := HK1.out; have := HJ4.out; have := HK3.out; have := HJ11.out; have := HJ21.out; omega⟩, ⟨by (with_reducible repeat (first | apply Kd.S_alloc | apply Kd.S_drewN | apply Kd.S_drew)); exact Kd.S_mono HO179.out (fun _ hk => hk.1)⟩, ⟨by (with_reducible repeat (first | apply Kd.R_alloc | apply Kd.R_drewN | apply Kd.R_drew)); exact Kd.R_mono HO_6.out (fun _ hk => trivial)⟩, ⟨by repeat (first | (with_reducible first | exact HB.out | apply below_alloc | apply pw_below_drewN | apply below_drew1 | refine below_set ?_ GE171.out) | exact HB.out)⟩⟩
                                          · rw [if_neg c35] at H
                                            exact absurd H (by simp)
                                  · replace c28 := Bool.eq_false_iff.mpr c28
                                    subst c28
                                    have H1 : (if x6_3.length < 70368744177664 then (cowrieref08_Fields.l1 kj21 l0 a1 x5_3 (x6_3 ++ [(⟨((rd_T39 ((rd_T53 l0 x9_1).f0) x10_3).f0), ((rd_T39 ((rd_T53 l0 x9_1).f0) x10_3).f1)⟩ : S39)]) true false x9_1 (wrap64 (x10_3 + 1))) else (none)) = some r := by rw [if_neg (show ¬ (false = true) by decide)] at H; exact H
                                    clear H
                                    have H := H1
                                    clear H1
                                    by_cases c37 : x6_3.length < 70368744177664
                                    · rw [if_pos c37] at H
                                      have LMc37 := Aside0.mk c37
                                      clear c37
                                      obtain ⟨y180, hy180⟩ : ∃ y_ : List (S39), y_ = (x6_3 ++ [(⟨((rd_T39 ((rd_T53 l0 x9_1).f0) x10_3).f0), ((rd_T39 ((rd_T53 l0 x9_1).f0) x10_3).f1)⟩ : S39)]) := ⟨_, rfl⟩
                                      replace H : (cowrieref08_Fields.l1 kj21 l0 a1 x5_3 y180 true false x9_1 (wrap64 (x10_3 + 1))) = some r := by first | (rw [hy180]; with_reducible exact H) | (have H2_ := (Option.bind_some _ _).symm.trans H; rw [hy180]; with_reducible exact H2_) | (have H2_ := (Option.bind_some _ _).symm.trans H; with_reducible exact H2_) | with_reducible exact H | (rw [hy180]; exact H) | exact H
                                      have Ny180 := Aside0.mk hy180
                                      clear hy180
                                      have H' := Aside0.mk H
                                      clear H
                                      have hcz38_0 : wc.cell? ⟨gb171, 0, none⟩ = some (.int .u8 ((rd_T39 ((rd_T53 l0 x9_1).f0) x10_3).f0)) := (blk_cell BK171.out 0).trans rfl
                                      have hcz38_1 : wc.cell? ⟨gb171, 1, none⟩ = some (.bool ((rd_T39 ((rd_T53 l0 x9_1).f0) x10_3).f1)) := (blk_cell BK171.out 1).trans rfl
                                      have hfz38_0 := blk_frozen BK171.out 0
                                      have hfz38_1 := blk_frozen BK171.out 1
                                      go_wp2_with (first | ((with_reducible refine gate_builtin (b := .append) (xs := #[.tmp 78, .tmp 80]) rfl ?_); at_builtin; refine Kd.R_append k39 (w0 := w) w.heap.size rfl (.tmp 78) (.tmp 80) 40 39 (.agg #[(.int .u8 0), (.bool false)]) 2 rfl Tryd.underlying40 info39 rfl (by decide) (by omega) u6 x6_3 (⟨((rd_T39 ((rd_T53 l0 x9_1).f0) x10_3).f0), ((rd_T39 ((rd_T53 l0 x9_1).f0) x10_3).f1)⟩ : S39) [.int .u8 ((rd_T39 ((rd_T53 l0 x9_1).f0) x10_3).f0), .bool ((rd_T39 ((rd_T53 l0 x9_1).f0) x10_3).f1)] (fun k_ => k_ ≠ gb171) (fun _ => False) rfl rfl ?aP (fun _ hk => hk.elim) ?aF ?aO ?aB ?aS ?aL ?_; (case aP => exact k39_mkM _ _ _ (⟨((rd_T39 ((rd_T53 l0 x9_1).f0) x10_3).f0), ((rd_T39 ((rd_T53 l0 x9_1).f0) x10_3).f1)⟩ : S39)); (case aB => exact (by repeat (first | (with_reducible first | exact HB.out | apply below_alloc | apply pw_below_drewN | apply below_drew1 | refine below_set ?_ GE171.out) | exact HB.out))); (case aF => exact (fun k_ hk => Kd.freshB (g := gb171) (o := .cells #[.int .u8 ((rd_T39 ((rd_T53 l0 x9_1).f0) x10_3).f0), .bool ((rd_T39 ((rd_T53 l0 x9_1).f0) x10_3).f1)] 39 (0, 0)) (by (with_reducible repeat (first | refine blk_drewN ?_ _ | refine blk_drew ?_ | refine blk_alloc ?_ _)); exact BK171.out) k_ hk)); (case aO => exact (by (with_reducible repeat (first | apply Kd.R_alloc | apply Kd.R_drewN | apply Kd.R_drew)); exact HO_6.out)); (case aS => exact (below_size (by repeat (first | (with_reducible first | exact HB.out | apply below_alloc | apply pw_below_drewN | apply below_drew1 | refine below_set ?_ GE171.out) | exact HB.out)))); (case aL => have := LMc37.out; omega); intro v181 w39 ho hb hg hat; rw [← Ny180.out] at ho; have n0_ := Aside0.mk (Kd.S_after (ok := (fun k_ => k_ ≠ gb171)) (by (with_reducible repeat (first | apply Kd.S_alloc | apply Kd.S_drewN | apply Kd.S_drew)); exact Kd.S_mono HO_5.out (fun _ hk => ⟨hk.2, hk.1⟩)) hg hat); have n1_ := Aside0.mk (blk_grown (g := gb171) (o := .cells #[.int .u8 ((rd_T39 ((rd_T53 l0 x9_1).f0) x10_3).f0), .bool ((rd_T39 ((rd_T53 l0 x9_1).f0) x10_3).f1)] 39 (0, 0)) (by (with_reducible repeat (first | refine blk_drewN ?_ _ | refine blk_drew ?_ | refine blk_alloc ?_ _)); exact BK171.out) hg (Kd.R_away HO_6.out (fun _ hk => hk))); have n2_ := Aside0.mk (hb); have n3_ := Aside0.mk (ho); clear HO_5; clear BK171; clear HB; clear HO_6; have HO_5 := n0_; have BK171 := n1_; have HB := n2_; have HO182 := n3_; clear n0_ n1_ n2_ n3_; clear ho hb hg hat))
                                      go_roundg kj21
                                      case measure => have := HK1.out; have := HJ4.out; have := HK3.out; have := HJ11.out; have := HJ21.out; omega
                                      case rel => exact ⟨(x5_3), (y180), (true), (false), (wrap64 (x10_3 + 1)), (by first | rfl | (simp; done) | (simp [*]; done)), (by first | rfl | (simp; done) | (simp [*]; done)), (by first | rfl | (simp; done) | (simp [*]; done)), H', ⟨by have := HK1.out; have := HJ4.out; have := HK3.out; have := HJ11.out; have := HJ21.out; omega⟩, ⟨by (with_reducible repeat (first | apply Kd.S_alloc | apply Kd.S_drewN | apply Kd.S_drew)); exact Kd.S_mono HO_5.out (fun _ hk => hk.2)⟩, ⟨by (with_reducible repeat (first | apply Kd.R_alloc | apply Kd.R_drewN | apply Kd.R_drew)); exact Kd.R_mono HO182.out (fun _ hk => trivial)⟩, ⟨by repeat (first | (with_reducible first | exact HB.out | apply below_alloc | apply pw_below_drewN | apply below_drew1 | refine below_set ?_ GE171.out) | exact HB.out)⟩⟩
                                    · rw [if_neg c37] at H
                                      exact absurd H (by simp)
                        · rw [if_neg c11] at H
                          exact absurd H (by simp)
                      · rw [if_neg c10] at H
                        have c10b0 : decide (x10_3 < (((rd_T53 l0 x9_1).f0).length : Int)) = false := decide_eq_false c10
                        clear c10
                        obtain ⟨bq40, hbq40⟩ : ∃ b_ : Bool, b_ = ((rd_T53 l0 x9_1).f3) := ⟨_, rfl⟩
                        replace H : (if bq40 = true then (if x5_3.length < 5864062014805 then (cowrieref08_Fields.l0 k3 l0 a1 (x5_3 ++ [x6_3]) ([] : List (S39)) false false (wrap64 (x9_1 + 1))) else (none)) else (cowrieref08_Fields.l0 k3 l0 a1 x5_3 x6_3 x7_3 x8_3 (wrap64 (x9_1 + 1)))) = some r := by rw [← hbq40] at H; exact H
                        have Nbq40 := Aside0.mk hbq40
                        clear hbq40
                        by_cases c41 : bq40 = true
                        · subst c41
                          have H1 : (if x5_3.length < 5864062014805 then (cowrieref08_Fields.l0 k3 l0 a1 (x5_3 ++ [x6_3]) ([] : List (S39)) false false (wrap64 (x9_1 + 1))) else (none)) = some r := by rw [if_pos rfl] at H; exact H
                          clear H
                          have H := H1
                          clear H1
                          by_cases c42 : x5_3.length < 5864062014805
                          · rw [if_pos c42] at H
                            have LMc42 := Aside0.mk c42
                            clear c42
                            obtain ⟨y166, hy166⟩ : ∃ y_ : List (List (S39)), y_ = (x5_3 ++ [x6_3]) := ⟨_, rfl⟩
                            replace H : (cowrieref08_Fields.l0 k3 l0 a1 y166 ([] : List (S39)) false false (wrap64 (x9_1 + 1))) = some r := by first | (rw [hy166]; with_reducible exact H) | (have H2_ := (Option.bind_some _ _).symm.trans H; rw [hy166]; with_reducible exact H2_) | (have H2_ := (Option.bind_some _ _).symm.trans H; with_reducible exact H2_) | with_reducible exact H | (rw [hy166]; exact H) | exact H
                            have Ny166 := Aside0.mk hy166
                            clear hy166
                            have H' := Aside0.mk H
                            clear H
                            have p164 : 0 ≤ (x9_1 : Int) := of_decide_eq_true (by first | (with_reducible assumption) | assumption)
                            have q164 : x9_1 < (l0.length : Int) := of_decide_eq_true (by first | (with_reducible assumption) | assumption)
                            obtain ⟨ad164, A164_0, c164_0, e164, hx164_0, hx164_1, hx164_2, hx164_3, hl164_0, hi164_0⟩ := at_T53 HR0.out x9_1 p164 q164
                            (try rw [← Nbq40.out] at hx164_1)
                            (try rw [← Nbq40.out] at hx164_2)
                            (try rw [← Nbq40.out] at hx164_3)
                            obtain rfl : ad163 = ad164 := (by injection e164)
                            replace hx164_0 := (HB.out.cell (World.block_lt_of_cell? w _ hx164_0)).trans hx164_0
                            replace hx164_1 := (HB.out.cell (World.block_lt_of_cell? w _ hx164_1)).trans hx164_1
                            replace hx164_2 := (HB.out.cell (World.block_lt_of_cell? w _ hx164_2)).trans hx164_2
                            replace hx164_3 := (HB.out.cell (World.block_lt_of_cell? w _ hx164_3)).trans hx164_3
                            have HR164_0 := Aside0.mk hi164_0
                            have HC164_0 := Aside0.mk hl164_0
                            clear hi164_0 hl164_0
                            replace p164 := eq_true p164
                            replace q164 := eq_true q164
                            have p165 : 0 ≤ (x9_1 : Int) := of_decide_eq_true (by first | (with_reducible assumption) | assumption)
                            have q165 : x9_1 < (l0.length : Int) := of_decide_eq_true (by first | (with_reducible assumption) | assumption)
                            obtain ⟨ad165, A165_0, c165_0, e165, hx165_0, hx165_1, hx165_2, hx165_3, hl165_0, hi165_0⟩ := at_T53 HR0.out x9_1 p165 q165
                            (try rw [← Nbq40.out] at hx165_1)
                            (try rw [← Nbq40.out] at hx165_2)
                            (try rw [← Nbq40.out] at hx165_3)
                            obtain rfl : ad163 = ad165 := (by injection e165)
                            replace hx165_0 := (HB.out.cell (World.block_lt_of_cell? w _ hx165_0)).trans hx165_0
                            replace hx165_1 := (HB.out.cell (World.block_lt_of_cell? w _ hx165_1)).trans hx165_1
                            replace hx165_2 := (HB.out.cell (World.block_lt_of_cell? w _ hx165_2)).trans hx165_2
                            replace hx165_3 := (HB.out.cell (World.block_lt_of_cell? w _ hx165_3)).trans hx165_3
                            have HR165_0 := Aside0.mk hi165_0
                            have HC165_0 := Aside0.mk hl165_0
                            clear hi165_0 hl165_0
                            replace p165 := eq_true p165
                            replace q165 := eq_true q165
                            have ea_ := Option.some.inj (hx164_0.symm.trans hx165_0)
                            injection ea_ with ea_ en_ ec_
                            subst ea_
                            subst ec_
                            clear en_
                            obtain ⟨Ao44, co44, eo44⟩ := Kd.R_slice HO_6.out
                            subst eo44
                            go_wp2_with (first | ((with_reducible refine gate_builtin (b := .append) (xs := #[.tmp 98, .tmp 100]) rfl ?_); at_builtin; refine Kd.S_append (Kd.slice 39 k39) (w0 := w) w.heap.size rfl (.tmp 98) (.tmp 100) 28 40 (.slice none 0 0) 24 rfl Tryd.underlying28 info40 rfl (by decide) (by omega) u5 x5_3 x6_3 [.slice Ao44 x6_3.length co44] (fun _ => True) (fun k_ => some k_ = (.slice Ao44 x6_3.length co44 : Value).ownBlock) rfl rfl ?aP (fun k_ hk_ => ((Kd.R_mono (ok' := fun k_ => ((fun _ => True)) k_ ∧ some k_ ≠ (u5 : Value).ownBlock) (Kd.R_apart' (HO_6.out) (Kd.S_typed HO_5.out) (by decide)) (fun k_ hk => ⟨trivial, hk.2⟩))).1 k_ hk_.symm) ?aF ?aO ?aB ?aS ?aL ?_; (case aP => exact Kd.M_row (Kd.R_mono (Kd.R_tight rfl (Kd.R_mono (ok' := fun k_ => ((fun _ => True)) k_ ∧ some k_ ≠ (u5 : Value).ownBlock) (Kd.R_apart' (HO_6.out) (Kd.S_typed HO_5.out) (by decide)) (fun k_ hk => ⟨trivial, hk.2⟩))) (fun _ h_ => h_))); (case aB => exact (by repeat (first | (with_reducible first | exact HB.out | apply below_alloc | apply pw_below_drewN | apply below_drew1) | exact HB.out))); (case aF => exact (fun _ _ => trivial)); (case aO => exact (by (with_reducible repeat (first | apply Kd.S_alloc | apply Kd.S_drewN | apply Kd.S_drew)); exact Kd.S_mono HO_5.out (fun k_ hk => ⟨trivial, fun e_ => hk e_⟩))); (case aS => exact (below_size (by repeat (first | (with_reducible first | exact HB.out | apply below_alloc | apply pw_below_drewN | apply below_drew1) | exact HB.out)))); (case aL => have := LMc42.out; omega); intro v167 w43 ho hb hg hat; rw [← Ny166.out] at ho; have n0_ := Aside0.mk (hb); have n1_ := Aside0.mk (ho); clear HB; clear HO_5; clear HO_6; have HB := n0_; have HO168 := n1_; clear n0_ n1_; clear ho hb hg hat))
                            go_roundg k3
                            case measure => have := HK1.out; have := HJ4.out; have := HK3.out; omega
                            case rel => exact ⟨(y166), (([] : List (S39))), (false), (false), (wrap64 (x9_1 + 1)), (by first | rfl | (simp; done) | (simp [*]; done)), (by first | rfl | (simp; done) | (simp [*]; done)), (by first | rfl | (simp; done) | (simp [*]; done)), H', ⟨by have := HK1.out; have := HJ4.out; have := HK3.out; omega⟩, ⟨by (with_reducible repeat (first | apply Kd.S_alloc | apply Kd.S_drewN | apply Kd.S_drew)); exact Kd.S_mono HO168.out (fun _ hk => (by simp [Value.ownBlock]))⟩, ⟨by first | exact Kd.R_nil _ _ _ _ _ | exact Kd.N_nil _ _ _ _ _ | exact Kd.V_nil _ _ _ _ _ | exact Kd.Q_nil _ _ _ _ _ | exact Kd.S_nil _ _ _ _ _⟩, ⟨by repeat (first | (with_reducible first | exact HB.out | apply below_alloc | apply pw_below_drewN | apply below_drew1) | exact HB.out)⟩⟩
                          · rw [if_neg c42] at H
                            exact absurd H (by simp)
                        · replace c41 := Bool.eq_false_iff.mpr c41
                          subst c41
                          have H1 : (cowrieref08_Fields.l0 k3 l0 a1 x5_3 x6_3 x7_3 x8_3 (wrap64 (x9_1 + 1))) = some r := by rw [if_neg (show ¬ (false = true) by decide)] at H; exact H
                          clear H
                          have H := H1
                          clear H1
                          have H' := Aside0.mk H
                          clear H
                          have p164 : 0 ≤ (x9_1 : Int) := of_decide_eq_true (by first | (with_reducible assumption) | assumption)
                          have q164 : x9_1 < (l0.length : Int) := of_decide_eq_true (by first | (with_reducible assumption) | assumption)
                          obtain ⟨ad164, A164_0, c164_0, e164, hx164_0, hx164_1, hx164_2, hx164_3, hl164_0, hi164_0⟩ := at_T53 HR0.out x9_1 p164 q164
                          (try rw [← Nbq40.out] at hx164_1)
                          (try rw [← Nbq40.out] at hx164_2)
                          (try rw [← Nbq40.out] at hx164_3)
                          obtain rfl : ad163 = ad164 := (by injection e164)
                          replace hx164_0 := (HB.out.cell (World.block_lt_of_cell? w _ hx164_0)).trans hx164_0
                          replace hx164_1 := (HB.out.cell (World.block_lt_of_cell? w _ hx164_1)).trans hx164_1
                          replace hx164_2 := (HB.out.cell (World.block_lt_of_cell? w _ hx164_2)).trans hx164_2
                          replace hx164_3 := (HB.out.cell (World.block_lt_of_cell? w _ hx164_3)).trans hx164_3
                          have HR164_0 := Aside0.mk hi164_0
                          have HC164_0 := Aside0.mk hl164_0
                          clear hi164_0 hl164_0
                          replace p164 := eq_true p164
                          replace q164 := eq_true q164
                          have p165 : 0 ≤ (x9_1 : Int) := of_decide_eq_true (by first | (with_reducible assumption) | assumption)
                          have q165 : x9_1 < (l0.length : Int) := of_decide_eq_true (by first | (with_reducible assumption) | assumption)
                          obtain ⟨ad165, A165_0, c165_0, e165, hx165_0, hx165_1, hx165_2, hx165_3, hl165_0, hi165_0⟩ := at_T53 HR0.out x9_1 p165 q165
                          (try rw [← Nbq40.out] at hx165_1)
                          (try rw [← Nbq40.out] at hx165_2)
                          (try rw [← Nbq40.out] at hx165_3)
                          obtain rfl : ad163 = ad165 := (by injection e165)
                          replace hx165_0 := (HB.out.cell (World.block_lt_of_cell? w _ hx165_0)).trans hx165_0
                          replace hx165_1 := (HB.out.cell (World.block_lt_of_cell? w _ hx165_1)).trans hx165_1
                          replace hx165_2 := (HB.out.cell (World.block_lt_of_cell? w _ hx165_2)).trans hx165_2
                          replace hx165_3 := (HB.out.cell (World.block_lt_of_cell? w _ hx165_3)).trans hx165_3
                          have HR165_0 := Aside0.mk hi165_0
                          have HC165_0 := Aside0.mk hl165_0
                          clear hi165_0 hl165_0
                          replace p165 := eq_true p165
                          replace q165 := eq_true q165
                          have ea_ := Option.some.inj (hx164_0.symm.trans hx165_0)
                          injection ea_ with ea_ en_ ec_
                          subst ea_
                          subst ec_
                          clear en_
                          go_wp2
                          go_roundg k3
                          case measure => have := HK1.out; have := HJ4.out; have := HK3.out; omega
                          case rel => exact ⟨(x5_3), (x6_3), (x7_3), (x8_3), (wrap64 (x9_1 + 1)), (by first | rfl | (simp; done) | (simp [*]; done)), (by first | rfl | (simp; done) | (simp [*]; done)), (by first | rfl | (simp; done) | (simp [*]; done)), H', ⟨by have := HK1.out; have := HJ4.out; have := HK3.out; omega⟩, ⟨by (with_reducible repeat (first | apply Kd.S_alloc | apply Kd.S_drewN | apply Kd.S_drew)); exact HO_5.out⟩, ⟨by (with_reducible repeat (first | apply Kd.R_alloc | apply Kd.R_drewN | apply Kd.R_drew)); exact HO_6.out⟩, ⟨by repeat (first | (with_reducible first | exact HB.out | apply below_alloc | apply pw_below_drewN | apply below_drew1) | exact HB.out)⟩⟩
                    · rw [if_neg c9] at H
                      exact absurd H (by simp)
                  · rw [if_neg c8] at H
                    exact absurd H (by simp)
        · rw [if_neg c4] at H
          exact absurd H (by simp)
      · rw [if_neg c3] at H
        have c3b0 : decide (x9_1 < (l0.length : Int)) = false := decide_eq_false c3
        clear c3
        by_cases c45 : x7_1 = true
        · subst c45
          have H1 : (if x5_1.length < 5864062014805 then (some (x5_1 ++ [x6_1])) else (none)) = some r := by rw [if_pos rfl] at H; exact H
          clear H
          have H := H1
          clear H1
          by_cases c46 : x5_1.length < 5864062014805
          · rw [if_pos c46] at H
            have LMc46 := Aside0.mk c46
            clear c46
            obtain ⟨y160, hy160⟩ : ∃ y_ : List (List (S39)), y_ = (x5_1 ++ [x6_1]) := ⟨_, rfl⟩
            replace H : (some y160) = some r := by first | (rw [hy160]; with_reducible exact H) | (have H2_ := (Option.bind_some _ _).symm.trans H; rw [hy160]; with_reducible exact H2_) | (have H2_ := (Option.bind_some _ _).symm.trans H; with_reducible exact H2_) | with_reducible exact H | (rw [hy160]; exact H) | exact H
            have Ny160 := Aside0.mk hy160
            clear hy160
            obtain rfl := Option.some.inj H
            obtain ⟨Ao48, co48, eo48⟩ := Kd.R_slice HO_6.out
            subst eo48
            go_wp2_with (first | ((with_reducible refine gate_builtin (b := .append) (xs := #[.tmp 103, .tmp 105]) rfl ?_); at_builtin; refine Kd.S_append (Kd.slice 39 k39) (w0 := w) w.heap.size rfl (.tmp 103) (.tmp 105) 28 40 (.slice none 0 0) 24 rfl Tryd.underlying28 info40 rfl (by decide) (by omega) u5 x5_1 x6_1 [.slice Ao48 x6_1.length co48] (fun _ => True) (fun k_ => some k_ = (.slice Ao48 x6_1.length co48 : Value).ownBlock) rfl rfl ?aP (fun k_ hk_ => ((Kd.R_mono (ok' := fun k_ => ((fun _ => True)) k_ ∧ some k_ ≠ (u5 : Value).ownBlock) (Kd.R_apart' (HO_6.out) (Kd.S_typed HO_5.out) (by decide)) (fun k_ hk => ⟨trivial, hk.2⟩))).1 k_ hk_.symm) ?aF ?aO ?aB ?aS ?aL ?_; (case aP => exact Kd.M_row (Kd.R_mono (Kd.R_tight rfl (Kd.R_mono (ok' := fun k_ => ((fun _ => True)) k_ ∧ some k_ ≠ (u5 : Value).ownBlock) (Kd.R_apart' (HO_6.out) (Kd.S_typed HO_5.out) (by decide)) (fun k_ hk => ⟨trivial, hk.2⟩))) (fun _ h_ => h_))); (case aB => exact (by repeat (first | (with_reducible first | exact HB.out | apply below_alloc | apply pw_below_drewN | apply below_drew1) | exact HB.out))); (case aF => exact (fun _ _ => trivial)); (case aO => exact (by (with_reducible repeat (first | apply Kd.S_alloc | apply Kd.S_drewN | apply Kd.S_drew)); exact Kd.S_mono HO_5.out (fun k_ hk => ⟨trivial, fun e_ => hk e_⟩))); (case aS => exact (below_size (by repeat (first | (with_reducible first | exact HB.out | apply below_alloc | apply pw_below_drewN | apply below_drew1) | exact HB.out)))); (case aL => have := LMc46.out; omega); intro v161 w47 ho hb hg hat; rw [← Ny160.out] at ho; have n0_ := Aside0.mk (hb); have n1_ := Aside0.mk (ho); clear HB; clear HO_5; clear HO_6; have HB := n0_; have HO162 := n1_; clear n0_ n1_; clear ho hb hg hat))
            go_ret
            exact ⟨_, by first | rfl | (simp [errW_none, errW_some] <;> rfl) | (simp [*, errW_none, errW_some] <;> rfl), by (with_reducible repeat (first | apply Kd.S_alloc | apply Kd.S_drewN | apply Kd.S_drew)); exact HO162.out, by repeat (first | (with_reducible first | exact HB.out | apply below_alloc | apply pw_below_drewN | apply below_drew1) | exact HB.out)⟩
          · rw [if_neg c46] at H
            exact absurd H (by simp)
        · replace c45 := Bool.eq_false_iff.mpr c45
          subst c45
          have H1 : (some x5_1) = some r := by rw [if_neg (show ¬ (false = true) by decide)] at H; exact H
          clear H
          have H := H1
          clear H1
          obtain rfl := Option.some.inj H
          go_wp2
          go_ret
          exact ⟨_, by first | rfl | (simp [errW_none, errW_some] <;> rfl) | (simp [*, errW_none, errW_some] <;> rfl), by (with_reducible repeat (first | apply Kd.S_alloc | apply Kd.S_drewN | apply Kd.S_drew)); exact Kd.S_mono HO_5.out (fun _ hk => trivial), by repeat (first | (with_reducible first | exact HB.out | apply below_alloc | apply pw_below_drewN | apply below_drew1) | exact HB.out)⟩

end Go.Proofs.YtfmfncknpifjcaaDoor.P

-- Written by programs of the kit and of this session.
import Derived.Test.YtdfddiehiiaepaaGreatDoorVsP1
import Derived.Test.YtdfddiehiiaepaaGreatDoorVsQ2
import Derived.Test.YtdfddiehiiaepaaGreatDoorVsPut
import Derived.Test.YtdfddiehiiaepaaGreatDoorVsTreeGP
import Derived.Test.YtdfddiehiiaepaaGreatDoorVsTreeN
import Derived.Maps.AppendAt
import Derived.OwnWalk
import Derived.Lib.SliceRun
import Derived.Laws.IdiomCopy
import Derived.Test.YtdfddiehiiaepaaGreatDoorVsTrim
import Derived.Test.YtdfddiehiiaepaaGreatDoorVsTestIn
import Derived.Test.YtdfddiehiiaepaaGreatDoorVsP2
namespace Go.Proofs.YtdfddiehiiaepaaGreatDoor.Q
open Go.RowKit Go.Proofs.YtdfddiehiiaepaaGreatDoorW.PrintWords Go.Proofs.YtdfddiehiiaepaaGreatDoorW.PrintLast Go.Proofs.YtdfddiehiiaepaaGreatDoor.P Go.Proofs.YtdfddiehiiaepaaGreatDoor.Ext Go.Proofs.YtdfddiehiiaepaaGreatDoorW.PrintMore
attribute [local go_sem] max2_int min2_int max_two min_two max_three min_three max_four min_four   -- for this text's walks alone
set_option linter.unusedVariables false
set_option linter.unusedSimpArgs false
mutual
def cowrieref10_Eval.j0 : Nat → List ByteArray → List (S73) → Int → Bool → Option (Int)
  | 0, _, _, _, _ => none
  | k + 1, x0, x1, x5, x19 => if x19 = true then (if 1 ≤ (x0.length : Int) then ((cowrieref10_Eval.f k (x0.drop 1) x1).bind fun t247 => ((cowrieref10_opposite.f t247).bind fun t248 => (some t248))) else (none)) else (if x5 = 2 then (if 0 < (x0.length : Int) then ((cowrieref10_Unary.f k (rdOf ByteArray.empty x0 0)).bind fun t250 => (cowrieref10_Eval.j1 k x0 x1 x5 t250)) else (none)) else (cowrieref10_Eval.j1 k x0 x1 x5 false))
def cowrieref10_Eval.j1 : Nat → List ByteArray → List (S73) → Int → Bool → Option (Int)
  | 0, _, _, _, _ => none
  | k + 1, x0, x1, x5, x33 => if x33 = true then (if 0 < (x0.length : Int) then (if 1 < (x0.length : Int) then ((cowrieref10_Single.f k (rdOf ByteArray.empty x0 0) (rdOf ByteArray.empty x0 1) x1).bind fun t253 => (some t253)) else (none)) else (none)) else (if x5 = 3 then (if 1 < (x0.length : Int) then ((cowrieref10_Binary.f k (rdOf ByteArray.empty x0 1)).bind fun t255 => (cowrieref10_Eval.j2 k x0 x1 x5 t255)) else (none)) else (cowrieref10_Eval.j2 k x0 x1 x5 false))
def cowrieref10_Eval.j2 : Nat → List ByteArray → List (S73) → Int → Bool → Option (Int)
  | 0, _, _, _, _ => none
  | k + 1, x0, x1, x5, x50 => if x50 = true then (if 0 < (x0.length : Int) then (if 1 < (x0.length : Int) then (if 2 < (x0.length : Int) then ((cowrieref10_Both.f k (rdOf ByteArray.empty x0 0) (rdOf ByteArray.empty x0 1) (rdOf ByteArray.empty x0 2)).bind fun t259 => (some t259)) else (none)) else (none)) else (none)) else (if x5 = 3 then (if 0 < (x0.length : Int) then (cowrieref10_Eval.j3 k x0 x1 x5 ((rdOf ByteArray.empty x0 0).toList == ([33] : List UInt8))) else (none)) else (if x5 = 4 then (if 0 < (x0.length : Int) then (cowrieref10_Eval.j3 k x0 x1 x5 ((rdOf ByteArray.empty x0 0).toList == ([33] : List UInt8))) else (none)) else (cowrieref10_Eval.j3 k x0 x1 x5 false)))
def cowrieref10_Eval.j3 : Nat → List ByteArray → List (S73) → Int → Bool → Option (Int)
  | 0, _, _, _, _ => none
  | k + 1, x0, x1, x5, x69 => if x69 = true then (if 1 ≤ (x0.length : Int) then ((cowrieref10_Eval.f k (x0.drop 1) x1).bind fun t263 => ((cowrieref10_opposite.f t263).bind fun t264 => (some t264))) else (none)) else (if x5 = 3 then (if 0 < (x0.length : Int) then (if (rdOf ByteArray.empty x0 0).toList = ([40] : List UInt8) then (if 0 ≤ (wrap64 (x5 - 1)) then (if (wrap64 (x5 - 1)) < (x0.length : Int) then (if (rdOf ByteArray.empty x0 (wrap64 (x5 - 1))).toList = ([41] : List UInt8) then (if 1 ≤ (wrap64 (x5 - 1)) then (if (wrap64 (x5 - 1)) ≤ (x0.length : Int) then ((cowrieref10_Eval.f k ((x0.take ((wrap64 (x5 - 1)) : Int).toNat).drop 1) x1).bind fun t268 => (some t268)) else (none)) else (none)) else (some 2)) else (none)) else (none)) else (some 2)) else (none)) else (if x5 = 4 then (if 0 < (x0.length : Int) then (if (rdOf ByteArray.empty x0 0).toList = ([40] : List UInt8) then (if 0 ≤ (wrap64 (x5 - 1)) then (if (wrap64 (x5 - 1)) < (x0.length : Int) then (if (rdOf ByteArray.empty x0 (wrap64 (x5 - 1))).toList = ([41] : List UInt8) then (if 1 ≤ (wrap64 (x5 - 1)) then (if (wrap64 (x5 - 1)) ≤ (x0.length : Int) then ((cowrieref10_Eval.f k ((x0.take ((wrap64 (x5 - 1)) : Int).toNat).drop 1) x1).bind fun t272 => (some t272)) else (none)) else (none)) else (some 2)) else (none)) else (none)) else (some 2)) else (none)) else (some 2)))
def cowrieref10_Eval.f : Nat → List ByteArray → List (S73) → Option (Int)
  | 0, _, _ => none
  | k + 1, l0, l1 => if (l0.length : Int) = 0 then (some 1) else (if (l0.length : Int) = 1 then (if 0 < (l0.length : Int) then ((cowrieref10_status.f (!(rdOf ByteArray.empty l0 0).toList.isEmpty)).bind fun t244 => (some t244)) else (none)) else (if (l0.length : Int) = 2 then (if 0 < (l0.length : Int) then (cowrieref10_Eval.j0 k l0 l1 (l0.length : Int) ((rdOf ByteArray.empty l0 0).toList == ([33] : List UInt8))) else (none)) else (cowrieref10_Eval.j0 k l0 l1 (l0.length : Int) false)))
end
def cowrieref10_Eval.T9 : Bool × List (List Nat × List Nat) := (true, [([], []), ([0], [0]), ([1], [1]), ([], []), ([3], [3]), ([4], [4]), ([], []), ([2, 5, 6], [2, 5, 6]), ([7, 7, 0, 1, 2, 3, 4, 5, 6, 7], [7])])
def cowrieref10_Eval.B9 : List Nat := [0, 1, 3, 0, 8, 24, 0, 127, 255]
theorem cowrieref10_Eval.tab9 : rtab .any (opsOf Tryz.f6 9) = cowrieref10_Eval.T9 := by kernel_rfl
theorem cowrieref10_Eval.bits9 : waitsOk cowrieref10_Eval.T9.2 cowrieref10_Eval.B9 = true := by kernel_rfl
def cowrieref10_Eval.T11 : Bool × List (List Nat × List Nat) := (true, [([], []), ([0], [0]), ([1], [1]), ([], []), ([3], [3]), ([4], [4]), ([], []), ([6], [6]), ([7], [7]), ([2, 5, 8], [2, 5, 8]), ([9, 9, 0, 1, 2, 3, 4, 5, 6, 7, 8, 9], [9])])
def cowrieref10_Eval.B11 : List Nat := [0, 1, 3, 0, 8, 24, 0, 64, 192, 511, 1023]
theorem cowrieref10_Eval.tab11 : rtab .any (opsOf Tryz.f6 11) = cowrieref10_Eval.T11 := by kernel_rfl
theorem cowrieref10_Eval.bits11 : waitsOk cowrieref10_Eval.T11.2 cowrieref10_Eval.B11 = true := by kernel_rfl
set_option maxHeartbeats 8000000 in
set_option maxRecDepth 100000 in
theorem cowrieref10_Eval.calls (k : Nat) : ∀ (A0 : Option Addr) (c0 : Nat) (l0 : List ByteArray) (A1 : Option Addr) (c1 : Nat) (l1 : List (S73)) (r : Int) (w : World) (hr0 : Kd.C Kd.string w A0 l0.length l0) (hc0 : l0.length ≤ c0) (hr1 : Kd.C k73 w A1 l1.length l1) (hc1 : l1.length ≤ c1) (h : cowrieref10_Eval.f k l0 l1 = some r),
    Calls Tryz.prog 6 #[.slice A0 l0.length c0, .slice A1 l1.length c1] w fun e w' => e = .returned (.int .i64 r) ∧ Below w.heap.size w w' := by
  induction k using Nat.strongRecOn with
  | _ k ih =>
  intro A0 c0 l0 A1 c1 l1 r w hr0 hc0 hr1 hc1 h
  cases k with
  | zero => exact absurd h (by simp [cowrieref10_Eval.f])
  | succ k =>
  simp only [cowrieref10_Eval.f] at h
  have HR0 := Aside0.mk hr0
  have HC0 := Aside0.mk hc0
  clear hr0 hc0
  have HR1 := Aside0.mk hr1
  have HC1 := Aside0.mk hc1
  clear hr1 hc1
  have HB := Aside0.mk (Below.refl w.heap.size w)
  have H : (if (l0.length : Int) = 0 then (some 1) else (if (l0.length : Int) = 1 then (if 0 < (l0.length : Int) then ((cowrieref10_status.f (!(rdOf ByteArray.empty l0 0).toList.isEmpty)).bind fun t244 => (some t244)) else (none)) else (if (l0.length : Int) = 2 then (if 0 < (l0.length : Int) then (cowrieref10_Eval.j0 k l0 l1 (l0.length : Int) ((rdOf ByteArray.empty l0 0).toList == ([33] : List UInt8))) else (none)) else (cowrieref10_Eval.j0 k l0 l1 (l0.length : Int) false)))) = some r := h
  clear h
  by_cases c3 : (l0.length : Int) = 0
  · rw [if_pos c3] at H
    have c3b0 : ((l0.length : Int) == 0) = true := beq_iff_eq.mpr c3
    have c3b1 : ((l0.length : Int) != 0) = false := bne_eq_false_iff_eq.mpr c3
    clear c3
    obtain rfl := Option.some.inj H
    go_enter Tryz.func6, Tryz.ntmps6
    go_wp2
    go_ret
    exact ⟨by first | rfl | (simp [errW_none, errW_some] <;> rfl) | (simp [*, errW_none, errW_some] <;> rfl), by repeat (first | (with_reducible first | exact HB.out | apply below_alloc | apply pw_below_drewN | apply below_drew1) | exact HB.out)⟩
  · rw [if_neg c3] at H
    have c3b0 : ((l0.length : Int) == 0) = false := beq_eq_false_iff_ne.mpr c3
    have c3b1 : ((l0.length : Int) != 0) = true := bne_iff_ne.mpr c3
    have c3b2 : ¬ (l0 = []) := fun h_ => c3 (by rw [h_]; rfl)
    by_cases c4 : (l0.length : Int) = 1
    · rw [if_pos c4] at H
      have c4b0 : ((l0.length : Int) == 1) = true := beq_iff_eq.mpr c4
      have c4b1 : ((l0.length : Int) != 1) = false := bne_eq_false_iff_eq.mpr c4
      clear c4
      by_cases c5 : 0 < (l0.length : Int)
      · rw [if_pos c5] at H
        have c5b0 : decide (0 < (l0.length : Int)) = true := decide_eq_true c5
        have c5b1 : decide (0 < l0.length) = true := decide_eq_true (by omega)
        clear c5
        replace H := Option.bind_eq_some_iff.mp H
        obtain ⟨t244, A60, H⟩ := H
        replace H : (some t244) = some r := H
        have A6 := Aside0.mk A60
        clear A60
        obtain rfl := Option.some.inj H
        have p243 : 0 ≤ (0 : Int) := (by omega)
        have q243 : 0 < (l0.length : Int) := of_decide_eq_true (by first | (with_reducible assumption) | assumption)
        obtain ⟨ad243, e243, hx243_0⟩ := Kd.at_string HR0.out 0 p243 q243
        cases e243
        have qi243 : (0 < l0.length) = True := eq_true (by omega)
        (try rw [show ((0 : Int)).toNat = 0 from rfl] at hx243_0)
        (try rw [Addr.add_zero'] at hx243_0)
        replace p243 := eq_true p243
        replace q243 := eq_true q243
        go_enter Tryz.func6, Tryz.ntmps6
        go_wp2_with (first | ((with_reducible refine gate_callee (f := 42) rfl ?_); refine goesL_ (some 18) rfl rfl Tryz.func42 (by kernel_rfl) rfl #[.bool (!(rdOf ByteArray.empty l0 0).toList.isEmpty)] rfl (by (try simp only [List.map_toArray, List.map_cons, List.map_nil]); first | done | rfl | (simp only [List.length_drop, List.length_take]; rfl)) ?_; (with_reducible refine (cowrieref10_status.calls (!(rdOf ByteArray.empty l0 0).toList.isEmpty) t244 _ A6.out).mono ?_); rintro e w' ⟨rfl, ⟨nd, rfl⟩⟩; refine ⟨_, rfl, ?_⟩))
        go_ret
        exact ⟨by first | rfl | (simp [errW_none, errW_some] <;> rfl) | (simp [*, errW_none, errW_some] <;> rfl), by repeat (first | (with_reducible first | exact HB.out | apply below_alloc | apply pw_below_drewN | apply below_drew1) | exact HB.out)⟩
      · rw [if_neg c5] at H
        exact absurd H (by simp)
    · rw [if_neg c4] at H
      have c4b0 : ((l0.length : Int) == 1) = false := beq_eq_false_iff_ne.mpr c4
      have c4b1 : ((l0.length : Int) != 1) = true := bne_iff_ne.mpr c4
      have HC7 := Aside0.mk H
      clear H
      go_enter Tryz.func6, Tryz.ntmps6
      go_upto_region 6 with (fail)
      go_cut [19] (fun v19 wc => ∃ (kq : Nat) (x19_6 : Bool), v19 = .bool x19_6 ∧ Aside0 (cowrieref10_Eval.j0 kq l0 l1 (l0.length : Int) x19_6 = some r) ∧ Aside0 (kq ≤ k) ∧ Aside0 (Below w.heap.size w wc))
      case first =>
        have H := HC7.out
        clear HC7
        by_cases c8 : (l0.length : Int) = 2
        · rw [if_pos c8] at H
          have c8b0 : ((l0.length : Int) == 2) = true := beq_iff_eq.mpr c8
          have c8b1 : ((l0.length : Int) != 2) = false := bne_eq_false_iff_eq.mpr c8
          clear c8
          (first | rw [c8b0] | (simp only [i64_w, i32_w]; rw [c8b0]) | skip)
          by_cases c9 : 0 < (l0.length : Int)
          · rw [if_pos c9] at H
            have c9b0 : decide (0 < (l0.length : Int)) = true := decide_eq_true c9
            have c9b1 : decide (0 < l0.length) = true := decide_eq_true (by omega)
            clear c9
            have H' := Aside0.mk H
            clear H
            have p245 : 0 ≤ (0 : Int) := (by omega)
            have q245 : 0 < (l0.length : Int) := of_decide_eq_true (by first | (with_reducible assumption) | assumption)
            obtain ⟨ad245, e245, hx245_0⟩ := Kd.at_string HR0.out 0 p245 q245
            cases e245
            have qi245 : (0 < l0.length) = True := eq_true (by omega)
            (try rw [show ((0 : Int)).toNat = 0 from rfl] at hx245_0)
            (try rw [Addr.add_zero'] at hx245_0)
            replace hx245_0 := (HB.out.cell (World.block_lt_of_cell? w _ hx245_0)).trans hx245_0
            replace p245 := eq_true p245
            replace q245 := eq_true q245
            go_wp2
            go_meet
            case rel => exact ⟨_, (((rdOf ByteArray.empty l0 0).toList == ([33] : List UInt8))), (by first | rfl | (simp; done) | (simp [*]; done)), H', ⟨by first | omega | exact Nat.le_refl _⟩, ⟨by repeat (first | (with_reducible first | exact HB.out | apply below_alloc | apply pw_below_drewN | apply below_drew1) | exact HB.out)⟩⟩
          · rw [if_neg c9] at H
            exact absurd H (by simp)
        · rw [if_neg c8] at H
          have c8b0 : ((l0.length : Int) == 2) = false := beq_eq_false_iff_ne.mpr c8
          have c8b1 : ((l0.length : Int) != 2) = true := bne_iff_ne.mpr c8
          (first | rw [c8b0] | (simp only [i64_w, i32_w]; rw [c8b0]) | skip)
          have H' := Aside0.mk H
          clear H
          go_wp2
          go_meet
          case rel => exact ⟨_, (false), (by first | rfl | (simp; done) | (simp [*]; done)), H', ⟨by first | omega | exact Nat.le_refl _⟩, ⟨by repeat (first | (with_reducible first | exact HB.out | apply below_alloc | apply pw_below_drewN | apply below_drew1) | exact HB.out)⟩⟩
      case rest =>
        clear HC7
        try clear c1
        try clear p2
        try clear q2
        try clear hx2
        try clear qi2
        try clear c3
        try clear c3b0
        try clear c3b1
        try clear c3b2
        try clear c4
        try clear c4b0
        try clear c4b1
        try clear c5
        try clear c5b0
        try clear c5b1
        try clear c6
        try clear c8
        try clear c8b0
        try clear c8b1
        try clear c9
        try clear c9b0
        try clear c9b1
        try clear hx243_0
        try clear hx245_0
        try clear p243
        try clear p245
        try clear q243
        try clear q245
        obtain ⟨kq, x19_6, rfl, HA, HJ6, HB⟩ := hcut
        cases kq with
        | zero => exact absurd HA.out (by simp [cowrieref10_Eval.j0])
        | succ kj6 =>
          have H := HA.out
          clear HA
          simp only [cowrieref10_Eval.j0] at H
          by_cases c10 : x19_6 = true
          · subst c10
            have H1 : (if 1 ≤ (l0.length : Int) then ((cowrieref10_Eval.f kj6 (l0.drop 1) l1).bind fun t247 => ((cowrieref10_opposite.f t247).bind fun t248 => (some t248))) else (none)) = some r := by rw [if_pos rfl] at H; exact H
            clear H
            have H := H1
            clear H1
            by_cases c11 : 1 ≤ (l0.length : Int)
            · rw [if_pos c11] at H
              have c11b0 := eq_true c11
              have c11b1 : decide (1 ≤ (l0.length : Int)) = true := decide_eq_true c11
              clear c11
              replace H := Option.bind_eq_some_iff.mp H
              obtain ⟨t247, A120, H⟩ := H
              replace H : ((cowrieref10_opposite.f t247).bind fun t248 => (some t248)) = some r := H
              have A12 := Aside0.mk A120
              clear A120
              replace H := Option.bind_eq_some_iff.mp H
              obtain ⟨t248, A130, H⟩ := H
              replace H : (some t248) = some r := H
              have A13 := Aside0.mk A130
              clear A130
              obtain rfl := Option.some.inj H
              obtain ⟨i014, hi014, _, hsz14, _⟩ := info_parts info9
              obtain ⟨A14, hcut14, hA14, hC14⟩ := print_drop_of (P := Tryz.prog) Value.string (⟨#[]⟩ : ByteArray) 22 9 .i64 Tryz.underlying22 hi014 hsz14 A0 c0 l0 1 (by omega) (of_decide_eq_true (by first | (with_reducible assumption) | assumption)) HC0.out
              have HR246 := Aside0.mk (Kd.C_of_reads (h1 := fun _ => rfl) (hA14 _ (Kd.reads_of_C HR0.out)))
              have HC246 := Aside0.mk hC14
              clear hA14 hC14 hi014 hsz14
              go_wp2_with (first | ((with_reducible refine gate_callee (f := 6) rfl ?_); refine goesL_ (some 31) rfl rfl Tryz.func6 (by kernel_rfl) rfl #[.slice A14 (l0.drop 1).length (c0 - 1), .slice A1 l1.length c1] rfl (by (try simp only [List.map_toArray, List.map_cons, List.map_nil]); first | done | (rw [show (l0.drop 1).length = (l0.length - 1) from List.length_drop] <;> rfl) | rfl | (simp only [List.length_drop, List.length_take]; rfl)) ?_; (with_reducible refine (ih kj6 (by have := HJ6.out; omega) _ _ (l0.drop 1) _ _ l1 t247 _ ?side1 ?side2 ?side3 ?side4 A12.out).mono ?_); (case side1 => repeat (first | exact (Kd.C_below HR246.out HB.out) | (with_reducible refine Kd.C_alloc ?_ _) | (with_reducible refine Kd.C_drewN ?_ _) | (with_reducible refine Kd.C_drew ?_))); (case side2 => exact HC246.out); (case side3 => repeat (first | exact (Kd.C_below HR1.out HB.out) | (with_reducible refine Kd.C_alloc ?_ _) | (with_reducible refine Kd.C_drewN ?_ _) | (with_reducible refine Kd.C_drew ?_))); (case side4 => exact HC1.out); rintro e w15 ⟨rfl, hb⟩; refine ⟨_, rfl, ?_⟩; have n0_ := Aside0.mk (below_step (by repeat (first | (with_reducible first | exact HB.out | apply below_alloc | apply pw_below_drewN | apply below_drew1) | exact HB.out)) hb); clear HB; have HB := n0_; clear n0_; (try clear hb); (try clear hb2); (try clear hk); (try clear hi)) | ((with_reducible refine gate_callee (f := 43) rfl ?_); refine goesL_ (some 32) rfl rfl Tryz.func43 (by kernel_rfl) rfl #[.int .i64 t247] rfl (by (try simp only [List.map_toArray, List.map_cons, List.map_nil]); first | done | rfl | (simp only [List.length_drop, List.length_take]; rfl)) ?_; (with_reducible refine (cowrieref10_opposite.calls t247 t248 _ A13.out).mono ?_); rintro e w' ⟨rfl, ⟨nd, rfl⟩⟩; refine ⟨_, rfl, ?_⟩))
              go_ret
              exact ⟨by first | rfl | (simp [errW_none, errW_some] <;> rfl) | (simp [*, errW_none, errW_some] <;> rfl), by repeat (first | (with_reducible first | exact HB.out | apply below_alloc | apply pw_below_drewN | apply below_drew1) | exact HB.out)⟩
            · rw [if_neg c11] at H
              exact absurd H (by simp)
          · replace c10 := Bool.eq_false_iff.mpr c10
            subst c10
            have H1 : (if (l0.length : Int) = 2 then (if 0 < (l0.length : Int) then ((cowrieref10_Unary.f kj6 (rdOf ByteArray.empty l0 0)).bind fun t250 => (cowrieref10_Eval.j1 kj6 l0 l1 (l0.length : Int) t250)) else (none)) else (cowrieref10_Eval.j1 kj6 l0 l1 (l0.length : Int) false)) = some r := by rw [if_neg (show ¬ (false = true) by decide)] at H; exact H
            clear H
            have H := H1
            clear H1
            have HC16 := Aside0.mk H
            clear H
            go_upto_region 8 with (fail)
            go_cut [33] (fun v33 wc => ∃ (kq : Nat) (x33_15 : Bool), v33 = .bool x33_15 ∧ Aside0 (cowrieref10_Eval.j1 kq l0 l1 (l0.length : Int) x33_15 = some r) ∧ Aside0 (kq ≤ kj6) ∧ Aside0 (Below w.heap.size w wc))
            case first =>
              have H := HC16.out
              clear HC16
              by_cases c17 : (l0.length : Int) = 2
              · rw [if_pos c17] at H
                have c17b0 : ((l0.length : Int) == 2) = true := beq_iff_eq.mpr c17
                have c17b1 : ((l0.length : Int) != 2) = false := bne_eq_false_iff_eq.mpr c17
                clear c17
                (first | rw [c17b0] | (simp only [i64_w, i32_w]; rw [c17b0]) | skip)
                by_cases c18 : 0 < (l0.length : Int)
                · rw [if_pos c18] at H
                  have c18b0 : decide (0 < (l0.length : Int)) = true := decide_eq_true c18
                  have c18b1 : decide (0 < l0.length) = true := decide_eq_true (by omega)
                  clear c18
                  replace H := Option.bind_eq_some_iff.mp H
                  obtain ⟨t250, A190, H⟩ := H
                  replace H : (cowrieref10_Eval.j1 kj6 l0 l1 (l0.length : Int) t250) = some r := H
                  have A19 := Aside0.mk A190
                  clear A190
                  have H' := Aside0.mk H
                  clear H
                  have p249 : 0 ≤ (0 : Int) := (by omega)
                  have q249 : 0 < (l0.length : Int) := of_decide_eq_true (by first | (with_reducible assumption) | assumption)
                  obtain ⟨ad249, e249, hx249_0⟩ := Kd.at_string HR0.out 0 p249 q249
                  cases e249
                  have qi249 : (0 < l0.length) = True := eq_true (by omega)
                  (try rw [show ((0 : Int)).toNat = 0 from rfl] at hx249_0)
                  (try rw [Addr.add_zero'] at hx249_0)
                  replace hx249_0 := (HB.out.cell (World.block_lt_of_cell? w _ hx249_0)).trans hx249_0
                  replace p249 := eq_true p249
                  replace q249 := eq_true q249
                  go_wp2_with (first | (go_at_call 8; (with_reducible refine (cowrieref10_Unary.calls kj6 (rdOf ByteArray.empty l0 0) t250 _ A19.out).mono ?_); rintro e w20 ⟨rfl, hb⟩; have n0_ := Aside0.mk (below_step (by repeat (first | (with_reducible first | exact HB.out | apply below_alloc | apply pw_below_drewN | apply below_drew1) | exact HB.out)) hb); clear HB; have HB := n0_; clear n0_; (try clear hb); (try clear hb2); (try clear hk); (try clear hi)))
                  go_meet
                  case rel => exact ⟨_, (t250), (by first | rfl | (simp; done) | (simp [*]; done)), H', ⟨by have := HJ6.out; first | omega | exact Nat.le_refl _⟩, ⟨by repeat (first | (with_reducible first | exact HB.out | apply below_alloc | apply pw_below_drewN | apply below_drew1) | exact HB.out)⟩⟩
                · rw [if_neg c18] at H
                  exact absurd H (by simp)
              · rw [if_neg c17] at H
                have c17b0 : ((l0.length : Int) == 2) = false := beq_eq_false_iff_ne.mpr c17
                have c17b1 : ((l0.length : Int) != 2) = true := bne_iff_ne.mpr c17
                (first | rw [c17b0] | (simp only [i64_w, i32_w]; rw [c17b0]) | skip)
                have H' := Aside0.mk H
                clear H
                go_wp2
                go_meet
                case rel => exact ⟨_, (false), (by first | rfl | (simp; done) | (simp [*]; done)), H', ⟨by have := HJ6.out; first | omega | exact Nat.le_refl _⟩, ⟨by repeat (first | (with_reducible first | exact HB.out | apply below_alloc | apply pw_below_drewN | apply below_drew1) | exact HB.out)⟩⟩
            case rest =>
              clear HC16
              try clear c1
              try clear p2
              try clear q2
              try clear hx2
              try clear qi2
              try clear c3
              try clear c3b0
              try clear c3b1
              try clear c3b2
              try clear c4
              try clear c4b0
              try clear c4b1
              try clear c5
              try clear c5b0
              try clear c5b1
              try clear c6
              try clear c8
              try clear c8b0
              try clear c8b1
              try clear c9
              try clear c9b0
              try clear c9b1
              try clear c10
              try clear c11
              try clear c11b0
              try clear c11b1
              try clear c17
              try clear c17b0
              try clear c17b1
              try clear c18
              try clear c18b0
              try clear c18b1
              try clear hx243_0
              try clear hx245_0
              try clear hx249_0
              try clear p2
              try clear p243
              try clear p245
              try clear p249
              try clear q2
              try clear q243
              try clear q245
              try clear q249
              obtain ⟨kq, x33_15, rfl, HA, HJ15, HB⟩ := hcut
              cases kq with
              | zero => exact absurd HA.out (by simp [cowrieref10_Eval.j1])
              | succ kj15 =>
                have H := HA.out
                clear HA
                simp only [cowrieref10_Eval.j1] at H
                by_cases c21 : x33_15 = true
                · subst c21
                  have H1 : (if 0 < (l0.length : Int) then (if 1 < (l0.length : Int) then ((cowrieref10_Single.f kj15 (rdOf ByteArray.empty l0 0) (rdOf ByteArray.empty l0 1) l1).bind fun t253 => (some t253)) else (none)) else (none)) = some r := by rw [if_pos rfl] at H; exact H
                  clear H
                  have H := H1
                  clear H1
                  by_cases c22 : 0 < (l0.length : Int)
                  · rw [if_pos c22] at H
                    have c22b0 : decide (0 < (l0.length : Int)) = true := decide_eq_true c22
                    have c22b1 : decide (0 < l0.length) = true := decide_eq_true (by omega)
                    clear c22
                    by_cases c23 : 1 < (l0.length : Int)
                    · rw [if_pos c23] at H
                      have c23b0 : decide (1 < (l0.length : Int)) = true := decide_eq_true c23
                      have c23b1 : decide (1 < l0.length) = true := decide_eq_true (by omega)
                      clear c23
                      replace H := Option.bind_eq_some_iff.mp H
                      obtain ⟨t253, A240, H⟩ := H
                      replace H : (some t253) = some r := H
                      have A24 := Aside0.mk A240
                      clear A240
                      obtain rfl := Option.some.inj H
                      try go_wp2
                      have n0_ := Aside0.mk (below_drew1 HB.out)
                      clear HB
                      have HB := n0_
                      clear n0_
                      have p251 : 0 ≤ (0 : Int) := (by omega)
                      have q251 : 0 < (l0.length : Int) := of_decide_eq_true (by first | (with_reducible assumption) | assumption)
                      obtain ⟨ad251, e251, hx251_0⟩ := Kd.at_string HR0.out 0 p251 q251
                      have hw251_0 := hx251_0
                      (try rw [show ((0 : Int)).toNat = 0 from rfl] at hw251_0)
                      (try rw [show 0 * 1 = 0 from rfl] at hw251_0)
                      (try rw [Addr.add_zero'] at hw251_0)
                      cases e251
                      have qi251 : (0 < l0.length) = True := eq_true (by omega)
                      (try rw [show ((0 : Int)).toNat = 0 from rfl] at hx251_0)
                      (try rw [Addr.add_zero'] at hx251_0)
                      replace hx251_0 := (HB.out.cell (World.block_lt_of_cell? w _ hx251_0)).trans hx251_0
                      replace p251 := eq_true p251
                      replace q251 := eq_true q251
                      have p252 : 0 ≤ (1 : Int) := (by omega)
                      have q252 : 1 < (l0.length : Int) := of_decide_eq_true (by first | (with_reducible assumption) | assumption)
                      obtain ⟨ad252, e252, hx252_0⟩ := Kd.at_string HR0.out 1 p252 q252
                      have hw252_0 := hx252_0
                      (try rw [show ((1 : Int)).toNat = 1 from rfl] at hw252_0)
                      (try rw [show 1 * 1 = 1 from rfl] at hw252_0)
                      (try simp only [Nat.reduceMul, Nat.reduceEqDiff, Go.Addr.add, ↓reduceIte] at hw252_0)
                      obtain rfl : ad251 = ad252 := (by injection e252)
                      (try simp only [show (1 : Int).toNat = 1 from rfl, Nat.reduceMul, Nat.reduceEqDiff, Go.Addr.add, ↓reduceIte] at hx252_0)
                      have qi252 : (1 < l0.length) = True := eq_true (by omega)
                      (try rw [show ((1 : Int)).toNat = 1 from rfl] at hx252_0)
                      replace hx252_0 := (HB.out.cell (World.block_lt_of_cell? w _ hx252_0)).trans hx252_0
                      replace p252 := eq_true p252
                      replace q252 := eq_true q252
                      refine start_ (n := 9) (S := fun w' => w'.cell? ad251 = some (.string (rdOf ByteArray.empty l0 0)) ∧ w'.cell? ⟨ad251.block, ad251.off + 1, none⟩ = some (.string (rdOf ByteArray.empty l0 1))) (ds := []) #[false, false, false, false, false, false, false, false, false] (by kernel_rfl) rfl rfl ⟨((HB.out.cell (World.block_lt_of_cell? w _ hw251_0)).trans hw251_0), ((HB.out.cell (World.block_lt_of_cell? w _ hw252_0)).trans hw252_0)⟩ (fun hHeld => ?_); refine with_tabW cowrieref10_Eval.tab9 cowrieref10_Eval.bits9 (fun HT_ HW_ => ?_)
                      generalize wc.drew = w25 at HB hx251_0 hx252_0 hHeld ⊢
                      refine pure_ (i := 0) (N := some 42) (v := ?_) (a' := ?_) #[true, false, false, false, false, false, false, false, false] rfl rfl (any_of HT_.out (by kernel_rfl)) (fun _ _ _ h => h) (Or.inl ⟨by rfl, ?_⟩) ?_ ?_
                      rotate_left
                      · intro w'
                        go_simp
                        with_reducible rfl
                      rotate_left
                      · simp only [Act.put, List.setIfInBounds_toArray, List.set_cons_zero, List.set_cons_succ, i64_w, i32_w]
                        rfl
                      refine pure_ (i := 1) (N := some 43) (v := ?_) (a' := ?_) #[true, true, false, false, false, false, false, false, false] rfl rfl (any_of HT_.out (by kernel_rfl)) (fun _ _ _ h => h) (Or.inl ⟨by rfl, ?_⟩) ?_ ?_
                      rotate_left
                      · intro w'
                        go_simp
                        with_reducible rfl
                      rotate_left
                      · simp only [Act.put, List.setIfInBounds_toArray, List.set_cons_zero, List.set_cons_succ, i64_w, i32_w]
                        rfl
                      refine pure_ (i := 3) (N := some 45) (v := ?_) (a' := ?_) #[true, true, false, true, false, false, false, false, false] rfl rfl (any_of HT_.out (by kernel_rfl)) (fun _ _ _ h => h) (Or.inl ⟨by rfl, ?_⟩) ?_ ?_
                      rotate_left
                      · intro w'
                        go_simp
                        with_reducible rfl
                      rotate_left
                      · simp only [Act.put, List.setIfInBounds_toArray, List.set_cons_zero, List.set_cons_succ, i64_w, i32_w]
                        rfl
                      refine pure_ (i := 4) (N := some 46) (v := ?_) (a' := ?_) #[true, true, false, true, true, false, false, false, false] rfl rfl (any_of HT_.out (by kernel_rfl)) (fun _ _ _ h => h) (Or.inl ⟨by rfl, ?_⟩) ?_ ?_
                      rotate_left
                      · intro w'
                        go_simp
                        with_reducible rfl
                      rotate_left
                      · simp only [Act.put, List.setIfInBounds_toArray, List.set_cons_zero, List.set_cons_succ, i64_w, i32_w]
                        rfl
                      refine pure_ (i := 6) (N := some 48) (v := ?_) (a' := ?_) #[true, true, false, true, true, false, true, false, false] rfl rfl (any_of HT_.out (by kernel_rfl)) (fun _ _ _ h => h) (Or.inl ⟨by rfl, ?_⟩) ?_ ?_
                      rotate_left
                      · intro w'
                        go_simp
                        with_reducible rfl
                      rotate_left
                      · simp only [Act.put, List.setIfInBounds_toArray, List.set_cons_zero, List.set_cons_succ, i64_w, i32_w]
                        rfl
                      refine take_ (i := 2) (N := some 44) (v := ?_) (a' := ?_) #[true, true, true, true, true, false, true, false, false] rfl rfl (take_ofW HT_.out HW_.out (by kernel_rfl)) (fun _ _ _ h => h) (Or.inl ⟨by rfl, ?_⟩) hHeld ?_ ?_
                      rotate_left
                      · rintro w' ⟨s0, s1⟩
                        go_simp
                        with_reducible rfl
                      rotate_left
                      · simp only [Act.put, List.setIfInBounds_toArray, List.set_cons_zero, List.set_cons_succ, i64_w, i32_w]
                        rfl
                      refine take_ (i := 5) (N := some 47) (v := ?_) (a' := ?_) #[true, true, true, true, true, true, true, false, false] rfl rfl (take_ofW HT_.out HW_.out (by kernel_rfl)) (fun _ _ _ h => h) (Or.inl ⟨by rfl, ?_⟩) hHeld ?_ ?_
                      rotate_left
                      · rintro w' ⟨s0, s1⟩
                        go_simp
                        with_reducible rfl
                      rotate_left
                      · simp only [Act.put, List.setIfInBounds_toArray, List.set_cons_zero, List.set_cons_succ, i64_w, i32_w]
                        rfl
                      refine one_ (i := 7) (N := some 49) #[true, true, true, true, true, true, true, true, false] rfl rfl (one_of HT_.out (by kernel_rfl)) (by decide) (fun K hK => ?_)
                      refine goes_ Tryz.func12 (by kernel_rfl) rfl #[.string (rdOf ByteArray.empty l0 0), .string (rdOf ByteArray.empty l0 1), .slice A1 l1.length c1] (by rfl) rfl rfl (by (try simp only [List.map_toArray, List.map_cons, List.map_nil]); first | done | rfl | (simp only [List.length_drop, List.length_take]; rfl)) ?_
                      with_reducible refine (cowrieref10_Single.calls kj15 (rdOf ByteArray.empty l0 0) (rdOf ByteArray.empty l0 1) _ _ l1 t253 _ ?side1 ?side2 A24.out).mono ?_
                      (case side1 => repeat (first | exact (Kd.C_below HR1.out HB.out) | (with_reducible refine Kd.C_alloc ?_ _) | (with_reducible refine Kd.C_drewN ?_ _) | (with_reducible refine Kd.C_drew ?_)))
                      (case side2 => exact HC1.out)
                      rintro e w26 ⟨rfl, hb⟩
                      refine ⟨_, rfl, ?_⟩
                      have n0_ := Aside0.mk (below_step (by repeat (first | (with_reducible first | exact HB.out | apply below_alloc | apply pw_below_drewN | apply below_drew1) | exact HB.out)) hb)
                      clear HB
                      have HB := n0_
                      clear n0_
                      (try clear hb)
                      (try clear hb2)
                      (try clear hk)
                      (try clear hi)
                      refine hK.out _ _ ⟨((HB.out.cell (World.block_lt_of_cell? w _ hw251_0)).trans hw251_0), ((HB.out.cell (World.block_lt_of_cell? w _ hw252_0)).trans hw252_0)⟩ (fun hHeld => ?_)
                      clear hK K
                      refine norm_ (a' := ?_) ?_ ?_
                      rotate_left
                      · show Act.put _ (some 49) _ = _
                        simp only [Act.put, List.setIfInBounds_toArray, List.set_cons_zero, List.set_cons_succ, i64_w, i32_w]
                        rfl
                      refine pure_ (i := 8) (N := some 4) (v := ?_) (a' := ?_) #[true, true, true, true, true, true, true, true, true] rfl rfl (any_of HT_.out (by kernel_rfl)) (fun _ _ _ h => h) (Or.inl ⟨by rfl, ?_⟩) ?_ ?_
                      rotate_left
                      · intro w'
                        go_simp
                        with_reducible rfl
                      rotate_left
                      · simp only [Act.put, List.setIfInBounds_toArray, List.set_cons_zero, List.set_cons_succ, i64_w, i32_w]
                        rfl
                      refine done_ (done_of HT_.out (by kernel_rfl)) ?_
                      try go_wp2
                      go_ret
                      exact ⟨by first | rfl | (simp [errW_none, errW_some] <;> rfl) | (simp [*, errW_none, errW_some] <;> rfl), by repeat (first | (with_reducible first | exact HB.out | apply below_alloc | apply pw_below_drewN | apply below_drew1) | exact HB.out)⟩
                    · rw [if_neg c23] at H
                      exact absurd H (by simp)
                  · rw [if_neg c22] at H
                    exact absurd H (by simp)
                · replace c21 := Bool.eq_false_iff.mpr c21
                  subst c21
                  have H1 : (if (l0.length : Int) = 3 then (if 1 < (l0.length : Int) then ((cowrieref10_Binary.f kj15 (rdOf ByteArray.empty l0 1)).bind fun t255 => (cowrieref10_Eval.j2 kj15 l0 l1 (l0.length : Int) t255)) else (none)) else (cowrieref10_Eval.j2 kj15 l0 l1 (l0.length : Int) false)) = some r := by rw [if_neg (show ¬ (false = true) by decide)] at H; exact H
                  clear H
                  have H := H1
                  clear H1
                  have HC27 := Aside0.mk H
                  clear H
                  go_upto_region 10 with (fail)
                  go_cut [50] (fun v50 wc => ∃ (kq : Nat) (x50_26 : Bool), v50 = .bool x50_26 ∧ Aside0 (cowrieref10_Eval.j2 kq l0 l1 (l0.length : Int) x50_26 = some r) ∧ Aside0 (kq ≤ kj15) ∧ Aside0 (Below w.heap.size w wc))
                  case first =>
                    have H := HC27.out
                    clear HC27
                    by_cases c28 : (l0.length : Int) = 3
                    · rw [if_pos c28] at H
                      have c28b0 : ((l0.length : Int) == 3) = true := beq_iff_eq.mpr c28
                      have c28b1 : ((l0.length : Int) != 3) = false := bne_eq_false_iff_eq.mpr c28
                      clear c28
                      (first | rw [c28b0] | (simp only [i64_w, i32_w]; rw [c28b0]) | skip)
                      by_cases c29 : 1 < (l0.length : Int)
                      · rw [if_pos c29] at H
                        have c29b0 : decide (1 < (l0.length : Int)) = true := decide_eq_true c29
                        have c29b1 : decide (1 < l0.length) = true := decide_eq_true (by omega)
                        clear c29
                        replace H := Option.bind_eq_some_iff.mp H
                        obtain ⟨t255, A300, H⟩ := H
                        replace H : (cowrieref10_Eval.j2 kj15 l0 l1 (l0.length : Int) t255) = some r := H
                        have A30 := Aside0.mk A300
                        clear A300
                        have H' := Aside0.mk H
                        clear H
                        have p254 : 0 ≤ (1 : Int) := (by omega)
                        have q254 : 1 < (l0.length : Int) := of_decide_eq_true (by first | (with_reducible assumption) | assumption)
                        obtain ⟨ad254, e254, hx254_0⟩ := Kd.at_string HR0.out 1 p254 q254
                        cases e254
                        (try simp only [show (1 : Int).toNat = 1 from rfl, Nat.reduceMul, Nat.reduceEqDiff, Go.Addr.add, ↓reduceIte] at hx254_0)
                        have qi254 : (1 < l0.length) = True := eq_true (by omega)
                        (try rw [show ((1 : Int)).toNat = 1 from rfl] at hx254_0)
                        replace hx254_0 := (HB.out.cell (World.block_lt_of_cell? w _ hx254_0)).trans hx254_0
                        replace p254 := eq_true p254
                        replace q254 := eq_true q254
                        go_wp2_with (first | (go_at_call 10; (with_reducible refine (cowrieref10_Binary.calls kj15 (rdOf ByteArray.empty l0 1) t255 _ A30.out).mono ?_); rintro e w31 ⟨rfl, hb⟩; have n0_ := Aside0.mk (below_step (by repeat (first | (with_reducible first | exact HB.out | apply below_alloc | apply pw_below_drewN | apply below_drew1) | exact HB.out)) hb); clear HB; have HB := n0_; clear n0_; (try clear hb); (try clear hb2); (try clear hk); (try clear hi)))
                        go_meet
                        case rel => exact ⟨_, (t255), (by first | rfl | (simp; done) | (simp [*]; done)), H', ⟨by have := HJ6.out; have := HJ15.out; first | omega | exact Nat.le_refl _⟩, ⟨by repeat (first | (with_reducible first | exact HB.out | apply below_alloc | apply pw_below_drewN | apply below_drew1) | exact HB.out)⟩⟩
                      · rw [if_neg c29] at H
                        exact absurd H (by simp)
                    · rw [if_neg c28] at H
                      have c28b0 : ((l0.length : Int) == 3) = false := beq_eq_false_iff_ne.mpr c28
                      have c28b1 : ((l0.length : Int) != 3) = true := bne_iff_ne.mpr c28
                      (first | rw [c28b0] | (simp only [i64_w, i32_w]; rw [c28b0]) | skip)
                      have H' := Aside0.mk H
                      clear H
                      go_wp2
                      go_meet
                      case rel => exact ⟨_, (false), (by first | rfl | (simp; done) | (simp [*]; done)), H', ⟨by have := HJ6.out; have := HJ15.out; first | omega | exact Nat.le_refl _⟩, ⟨by repeat (first | (with_reducible first | exact HB.out | apply below_alloc | apply pw_below_drewN | apply below_drew1) | exact HB.out)⟩⟩
                  case rest =>
                    clear HC27
                    try clear c1
                    try clear c2
                    try clear p2
                    try clear q2
                    try clear hx2
                    try clear qi2
                    try clear c3
                    try clear c3b0
                    try clear c3b1
                    try clear c3b2
                    try clear c4
                    try clear c4b0
                    try clear c4b1
                    try clear c5
                    try clear c5b0
                    try clear c5b1
                    try clear c6
                    try clear c8
                    try clear c8b0
                    try clear c8b1
                    try clear c9
                    try clear c9b0
                    try clear c9b1
                    try clear c10
                    try clear c11
                    try clear c11b0
                    try clear c11b1
                    try clear c12
                    try clear c17
                    try clear c17b0
                    try clear c17b1
                    try clear c18
                    try clear c18b0
                    try clear c18b1
                    try clear c21
                    try clear c22
                    try clear c22b0
                    try clear c22b1
                    try clear c23
                    try clear c23b0
                    try clear c23b1
                    try clear p24
                    try clear q24
                    try clear hx24
                    try clear qi24
                    try clear p25
                    try clear q25
                    try clear hx25
                    try clear qi25
                    try clear c28
                    try clear c28b0
                    try clear c28b1
                    try clear c29
                    try clear c29b0
                    try clear c29b1
                    try clear hx243_0
                    try clear hx245_0
                    try clear hx249_0
                    try clear hx251_0
                    try clear hx252_0
                    try clear hx254_0
                    try clear p2
                    try clear p243
                    try clear p245
                    try clear p249
                    try clear p251
                    try clear p252
                    try clear p254
                    try clear q2
                    try clear q243
                    try clear q245
                    try clear q249
                    try clear q251
                    try clear q252
                    try clear q254
                    obtain ⟨kq, x50_26, rfl, HA, HJ26, HB⟩ := hcut
                    cases kq with
                    | zero => exact absurd HA.out (by simp [cowrieref10_Eval.j2])
                    | succ kj26 =>
                      have H := HA.out
                      clear HA
                      simp only [cowrieref10_Eval.j2] at H
                      by_cases c32 : x50_26 = true
                      · subst c32
                        have H1 : (if 0 < (l0.length : Int) then (if 1 < (l0.length : Int) then (if 2 < (l0.length : Int) then ((cowrieref10_Both.f kj26 (rdOf ByteArray.empty l0 0) (rdOf ByteArray.empty l0 1) (rdOf ByteArray.empty l0 2)).bind fun t259 => (some t259)) else (none)) else (none)) else (none)) = some r := by rw [if_pos rfl] at H; exact H
                        clear H
                        have H := H1
                        clear H1
                        by_cases c33 : 0 < (l0.length : Int)
                        · rw [if_pos c33] at H
                          have c33b0 : decide (0 < (l0.length : Int)) = true := decide_eq_true c33
                          have c33b1 : decide (0 < l0.length) = true := decide_eq_true (by omega)
                          clear c33
                          by_cases c34 : 1 < (l0.length : Int)
                          · rw [if_pos c34] at H
                            have c34b0 : decide (1 < (l0.length : Int)) = true := decide_eq_true c34
                            have c34b1 : decide (1 < l0.length) = true := decide_eq_true (by omega)
                            clear c34
                            by_cases c35 : 2 < (l0.length : Int)
                            · rw [if_pos c35] at H
                              have c35b0 : decide (2 < (l0.length : Int)) = true := decide_eq_true c35
                              have c35b1 : decide (2 < l0.length) = true := decide_eq_true (by omega)
                              clear c35
                              replace H := Option.bind_eq_some_iff.mp H
                              obtain ⟨t259, A360, H⟩ := H
                              replace H : (some t259) = some r := H
                              have A36 := Aside0.mk A360
                              clear A360
                              obtain rfl := Option.some.inj H
                              try go_wp2
                              have n0_ := Aside0.mk (below_drew1 HB.out)
                              clear HB
                              have HB := n0_
                              clear n0_
                              have p256 : 0 ≤ (0 : Int) := (by omega)
                              have q256 : 0 < (l0.length : Int) := of_decide_eq_true (by first | (with_reducible assumption) | assumption)
                              obtain ⟨ad256, e256, hx256_0⟩ := Kd.at_string HR0.out 0 p256 q256
                              have hw256_0 := hx256_0
                              (try rw [show ((0 : Int)).toNat = 0 from rfl] at hw256_0)
                              (try rw [show 0 * 1 = 0 from rfl] at hw256_0)
                              (try rw [Addr.add_zero'] at hw256_0)
                              cases e256
                              have qi256 : (0 < l0.length) = True := eq_true (by omega)
                              (try rw [show ((0 : Int)).toNat = 0 from rfl] at hx256_0)
                              (try rw [Addr.add_zero'] at hx256_0)
                              replace hx256_0 := (HB.out.cell (World.block_lt_of_cell? w _ hx256_0)).trans hx256_0
                              replace p256 := eq_true p256
                              replace q256 := eq_true q256
                              have p257 : 0 ≤ (1 : Int) := (by omega)
                              have q257 : 1 < (l0.length : Int) := of_decide_eq_true (by first | (with_reducible assumption) | assumption)
                              obtain ⟨ad257, e257, hx257_0⟩ := Kd.at_string HR0.out 1 p257 q257
                              have hw257_0 := hx257_0
                              (try rw [show ((1 : Int)).toNat = 1 from rfl] at hw257_0)
                              (try rw [show 1 * 1 = 1 from rfl] at hw257_0)
                              (try simp only [Nat.reduceMul, Nat.reduceEqDiff, Go.Addr.add, ↓reduceIte] at hw257_0)
                              obtain rfl : ad256 = ad257 := (by injection e257)
                              (try simp only [show (1 : Int).toNat = 1 from rfl, Nat.reduceMul, Nat.reduceEqDiff, Go.Addr.add, ↓reduceIte] at hx257_0)
                              have qi257 : (1 < l0.length) = True := eq_true (by omega)
                              (try rw [show ((1 : Int)).toNat = 1 from rfl] at hx257_0)
                              replace hx257_0 := (HB.out.cell (World.block_lt_of_cell? w _ hx257_0)).trans hx257_0
                              replace p257 := eq_true p257
                              replace q257 := eq_true q257
                              have p258 : 0 ≤ (2 : Int) := (by omega)
                              have q258 : 2 < (l0.length : Int) := of_decide_eq_true (by first | (with_reducible assumption) | assumption)
                              obtain ⟨ad258, e258, hx258_0⟩ := Kd.at_string HR0.out 2 p258 q258
                              have hw258_0 := hx258_0
                              (try rw [show ((2 : Int)).toNat = 2 from rfl] at hw258_0)
                              (try rw [show 2 * 1 = 2 from rfl] at hw258_0)
                              (try simp only [Nat.reduceMul, Nat.reduceEqDiff, Go.Addr.add, ↓reduceIte] at hw258_0)
                              obtain rfl : ad256 = ad258 := (by injection e258)
                              (try simp only [show (2 : Int).toNat = 2 from rfl, Nat.reduceMul, Nat.reduceEqDiff, Go.Addr.add, ↓reduceIte] at hx258_0)
                              have qi258 : (2 < l0.length) = True := eq_true (by omega)
                              (try rw [show ((2 : Int)).toNat = 2 from rfl] at hx258_0)
                              replace hx258_0 := (HB.out.cell (World.block_lt_of_cell? w _ hx258_0)).trans hx258_0
                              replace p258 := eq_true p258
                              replace q258 := eq_true q258
                              refine start_ (n := 11) (S := fun w' => w'.cell? ad256 = some (.string (rdOf ByteArray.empty l0 0)) ∧ w'.cell? ⟨ad256.block, ad256.off + 1, none⟩ = some (.string (rdOf ByteArray.empty l0 1)) ∧ w'.cell? ⟨ad256.block, ad256.off + 2, none⟩ = some (.string (rdOf ByteArray.empty l0 2))) (ds := []) #[false, false, false, false, false, false, false, false, false, false, false] (by kernel_rfl) rfl rfl ⟨((HB.out.cell (World.block_lt_of_cell? w _ hw256_0)).trans hw256_0), ((HB.out.cell (World.block_lt_of_cell? w _ hw257_0)).trans hw257_0), ((HB.out.cell (World.block_lt_of_cell? w _ hw258_0)).trans hw258_0)⟩ (fun hHeld => ?_); refine with_tabW cowrieref10_Eval.tab11 cowrieref10_Eval.bits11 (fun HT_ HW_ => ?_)
                              generalize wc.drew = w37 at HB hx256_0 hx257_0 hx258_0 hHeld ⊢
                              refine pure_ (i := 0) (N := some 59) (v := ?_) (a' := ?_) #[true, false, false, false, false, false, false, false, false, false, false] rfl rfl (any_of HT_.out (by kernel_rfl)) (fun _ _ _ h => h) (Or.inl ⟨by rfl, ?_⟩) ?_ ?_
                              rotate_left
                              · intro w'
                                go_simp
                                with_reducible rfl
                              rotate_left
                              · simp only [Act.put, List.setIfInBounds_toArray, List.set_cons_zero, List.set_cons_succ, i64_w, i32_w]
                                rfl
                              refine pure_ (i := 1) (N := some 60) (v := ?_) (a' := ?_) #[true, true, false, false, false, false, false, false, false, false, false] rfl rfl (any_of HT_.out (by kernel_rfl)) (fun _ _ _ h => h) (Or.inl ⟨by rfl, ?_⟩) ?_ ?_
                              rotate_left
                              · intro w'
                                go_simp
                                with_reducible rfl
                              rotate_left
                              · simp only [Act.put, List.setIfInBounds_toArray, List.set_cons_zero, List.set_cons_succ, i64_w, i32_w]
                                rfl
                              refine pure_ (i := 3) (N := some 62) (v := ?_) (a' := ?_) #[true, true, false, true, false, false, false, false, false, false, false] rfl rfl (any_of HT_.out (by kernel_rfl)) (fun _ _ _ h => h) (Or.inl ⟨by rfl, ?_⟩) ?_ ?_
                              rotate_left
                              · intro w'
                                go_simp
                                with_reducible rfl
                              rotate_left
                              · simp only [Act.put, List.setIfInBounds_toArray, List.set_cons_zero, List.set_cons_succ, i64_w, i32_w]
                                rfl
                              refine pure_ (i := 4) (N := some 63) (v := ?_) (a' := ?_) #[true, true, false, true, true, false, false, false, false, false, false] rfl rfl (any_of HT_.out (by kernel_rfl)) (fun _ _ _ h => h) (Or.inl ⟨by rfl, ?_⟩) ?_ ?_
                              rotate_left
                              · intro w'
                                go_simp
                                with_reducible rfl
                              rotate_left
                              · simp only [Act.put, List.setIfInBounds_toArray, List.set_cons_zero, List.set_cons_succ, i64_w, i32_w]
                                rfl
                              refine pure_ (i := 6) (N := some 65) (v := ?_) (a' := ?_) #[true, true, false, true, true, false, true, false, false, false, false] rfl rfl (any_of HT_.out (by kernel_rfl)) (fun _ _ _ h => h) (Or.inl ⟨by rfl, ?_⟩) ?_ ?_
                              rotate_left
                              · intro w'
                                go_simp
                                with_reducible rfl
                              rotate_left
                              · simp only [Act.put, List.setIfInBounds_toArray, List.set_cons_zero, List.set_cons_succ, i64_w, i32_w]
                                rfl
                              refine pure_ (i := 7) (N := some 66) (v := ?_) (a' := ?_) #[true, true, false, true, true, false, true, true, false, false, false] rfl rfl (any_of HT_.out (by kernel_rfl)) (fun _ _ _ h => h) (Or.inl ⟨by rfl, ?_⟩) ?_ ?_
                              rotate_left
                              · intro w'
                                go_simp
                                with_reducible rfl
                              rotate_left
                              · simp only [Act.put, List.setIfInBounds_toArray, List.set_cons_zero, List.set_cons_succ, i64_w, i32_w]
                                rfl
                              refine take_ (i := 2) (N := some 61) (v := ?_) (a' := ?_) #[true, true, true, true, true, false, true, true, false, false, false] rfl rfl (take_ofW HT_.out HW_.out (by kernel_rfl)) (fun _ _ _ h => h) (Or.inl ⟨by rfl, ?_⟩) hHeld ?_ ?_
                              rotate_left
                              · rintro w' ⟨s0, s1, s2⟩
                                go_simp
                                with_reducible rfl
                              rotate_left
                              · simp only [Act.put, List.setIfInBounds_toArray, List.set_cons_zero, List.set_cons_succ, i64_w, i32_w]
                                rfl
                              refine take_ (i := 5) (N := some 64) (v := ?_) (a' := ?_) #[true, true, true, true, true, true, true, true, false, false, false] rfl rfl (take_ofW HT_.out HW_.out (by kernel_rfl)) (fun _ _ _ h => h) (Or.inl ⟨by rfl, ?_⟩) hHeld ?_ ?_
                              rotate_left
                              · rintro w' ⟨s0, s1, s2⟩
                                go_simp
                                with_reducible rfl
                              rotate_left
                              · simp only [Act.put, List.setIfInBounds_toArray, List.set_cons_zero, List.set_cons_succ, i64_w, i32_w]
                                rfl
                              refine take_ (i := 8) (N := some 67) (v := ?_) (a' := ?_) #[true, true, true, true, true, true, true, true, true, false, false] rfl rfl (take_ofW HT_.out HW_.out (by kernel_rfl)) (fun _ _ _ h => h) (Or.inl ⟨by rfl, ?_⟩) hHeld ?_ ?_
                              rotate_left
                              · rintro w' ⟨s0, s1, s2⟩
                                go_simp
                                with_reducible rfl
                              rotate_left
                              · simp only [Act.put, List.setIfInBounds_toArray, List.set_cons_zero, List.set_cons_succ, i64_w, i32_w]
                                rfl
                              refine one_ (i := 9) (N := some 68) #[true, true, true, true, true, true, true, true, true, true, false] rfl rfl (one_of HT_.out (by kernel_rfl)) (by decide) (fun K hK => ?_)
                              refine goes_ Tryz.func14 (by kernel_rfl) rfl #[.string (rdOf ByteArray.empty l0 0), .string (rdOf ByteArray.empty l0 1), .string (rdOf ByteArray.empty l0 2)] (by rfl) rfl rfl (by (try simp only [List.map_toArray, List.map_cons, List.map_nil]); first | done | rfl | (simp only [List.length_drop, List.length_take]; rfl)) ?_
                              with_reducible refine (cowrieref10_Both.calls kj26 (rdOf ByteArray.empty l0 0) (rdOf ByteArray.empty l0 1) (rdOf ByteArray.empty l0 2) t259 _ A36.out).mono ?_
                              rintro e w38 ⟨rfl, hb⟩
                              refine ⟨_, rfl, ?_⟩
                              have n0_ := Aside0.mk (below_step (by repeat (first | (with_reducible first | exact HB.out | apply below_alloc | apply pw_below_drewN | apply below_drew1) | exact HB.out)) hb)
                              clear HB
                              have HB := n0_
                              clear n0_
                              (try clear hb)
                              (try clear hb2)
                              (try clear hk)
                              (try clear hi)
                              refine hK.out _ _ ⟨((HB.out.cell (World.block_lt_of_cell? w _ hw256_0)).trans hw256_0), ((HB.out.cell (World.block_lt_of_cell? w _ hw257_0)).trans hw257_0), ((HB.out.cell (World.block_lt_of_cell? w _ hw258_0)).trans hw258_0)⟩ (fun hHeld => ?_)
                              clear hK K
                              refine norm_ (a' := ?_) ?_ ?_
                              rotate_left
                              · show Act.put _ (some 68) _ = _
                                simp only [Act.put, List.setIfInBounds_toArray, List.set_cons_zero, List.set_cons_succ, i64_w, i32_w]
                                rfl
                              refine pure_ (i := 10) (N := some 4) (v := ?_) (a' := ?_) #[true, true, true, true, true, true, true, true, true, true, true] rfl rfl (any_of HT_.out (by kernel_rfl)) (fun _ _ _ h => h) (Or.inl ⟨by rfl, ?_⟩) ?_ ?_
                              rotate_left
                              · intro w'
                                go_simp
                                with_reducible rfl
                              rotate_left
                              · simp only [Act.put, List.setIfInBounds_toArray, List.set_cons_zero, List.set_cons_succ, i64_w, i32_w]
                                rfl
                              refine done_ (done_of HT_.out (by kernel_rfl)) ?_
                              try go_wp2
                              go_ret
                              exact ⟨by first | rfl | (simp [errW_none, errW_some] <;> rfl) | (simp [*, errW_none, errW_some] <;> rfl), by repeat (first | (with_reducible first | exact HB.out | apply below_alloc | apply pw_below_drewN | apply below_drew1) | exact HB.out)⟩
                            · rw [if_neg c35] at H
                              exact absurd H (by simp)
                          · rw [if_neg c34] at H
                            exact absurd H (by simp)
                        · rw [if_neg c33] at H
                          exact absurd H (by simp)
                      · replace c32 := Bool.eq_false_iff.mpr c32
                        subst c32
                        have H1 : (if (l0.length : Int) = 3 then (if 0 < (l0.length : Int) then (cowrieref10_Eval.j3 kj26 l0 l1 (l0.length : Int) ((rdOf ByteArray.empty l0 0).toList == ([33] : List UInt8))) else (none)) else (if (l0.length : Int) = 4 then (if 0 < (l0.length : Int) then (cowrieref10_Eval.j3 kj26 l0 l1 (l0.length : Int) ((rdOf ByteArray.empty l0 0).toList == ([33] : List UInt8))) else (none)) else (cowrieref10_Eval.j3 kj26 l0 l1 (l0.length : Int) false))) = some r := by rw [if_neg (show ¬ (false = true) by decide)] at H; exact H
                        clear H
                        have H := H1
                        clear H1
                        have HC39 := Aside0.mk H
                        clear H
                        go_upto_region 12 with (fail)
                        go_cut [69] (fun v69 wc => ∃ (kq : Nat) (x69_38 : Bool), v69 = .bool x69_38 ∧ Aside0 (cowrieref10_Eval.j3 kq l0 l1 (l0.length : Int) x69_38 = some r) ∧ Aside0 (kq ≤ kj26) ∧ Aside0 (Below w.heap.size w wc))
                        case first =>
                          have H := HC39.out
                          clear HC39
                          by_cases c40 : (l0.length : Int) = 3
                          · rw [if_pos c40] at H
                            have c40b0 : ((l0.length : Int) == 3) = true := beq_iff_eq.mpr c40
                            have c40b1 : ((l0.length : Int) != 3) = false := bne_eq_false_iff_eq.mpr c40
                            clear c40
                            (first | rw [c40b0] | (simp only [i64_w, i32_w]; rw [c40b0]) | skip)
                            by_cases c41 : 0 < (l0.length : Int)
                            · rw [if_pos c41] at H
                              have c41b0 : decide (0 < (l0.length : Int)) = true := decide_eq_true c41
                              have c41b1 : decide (0 < l0.length) = true := decide_eq_true (by omega)
                              clear c41
                              have H' := Aside0.mk H
                              clear H
                              have p260 : 0 ≤ (0 : Int) := (by omega)
                              have q260 : 0 < (l0.length : Int) := of_decide_eq_true (by first | (with_reducible assumption) | assumption)
                              obtain ⟨ad260, e260, hx260_0⟩ := Kd.at_string HR0.out 0 p260 q260
                              cases e260
                              have qi260 : (0 < l0.length) = True := eq_true (by omega)
                              (try rw [show ((0 : Int)).toNat = 0 from rfl] at hx260_0)
                              (try rw [Addr.add_zero'] at hx260_0)
                              replace hx260_0 := (HB.out.cell (World.block_lt_of_cell? w _ hx260_0)).trans hx260_0
                              replace p260 := eq_true p260
                              replace q260 := eq_true q260
                              go_wp2
                              go_meet
                              case rel => exact ⟨_, (((rdOf ByteArray.empty l0 0).toList == ([33] : List UInt8))), (by first | rfl | (simp; done) | (simp [*]; done)), H', ⟨by have := HJ6.out; have := HJ15.out; have := HJ26.out; first | omega | exact Nat.le_refl _⟩, ⟨by repeat (first | (with_reducible first | exact HB.out | apply below_alloc | apply pw_below_drewN | apply below_drew1) | exact HB.out)⟩⟩
                            · rw [if_neg c41] at H
                              exact absurd H (by simp)
                          · rw [if_neg c40] at H
                            have c40b0 : ((l0.length : Int) == 3) = false := beq_eq_false_iff_ne.mpr c40
                            have c40b1 : ((l0.length : Int) != 3) = true := bne_iff_ne.mpr c40
                            (first | rw [c40b0] | (simp only [i64_w, i32_w]; rw [c40b0]) | skip)
                            by_cases c42 : (l0.length : Int) = 4
                            · rw [if_pos c42] at H
                              have c42b0 : ((l0.length : Int) == 4) = true := beq_iff_eq.mpr c42
                              have c42b1 : ((l0.length : Int) != 4) = false := bne_eq_false_iff_eq.mpr c42
                              clear c42
                              by_cases c43 : 0 < (l0.length : Int)
                              · rw [if_pos c43] at H
                                have c43b0 : decide (0 < (l0.length : Int)) = true := decide_eq_true c43
                                have c43b1 : decide (0 < l0.length) = true := decide_eq_true (by omega)
                                clear c43
                                have H' := Aside0.mk H
                                clear H
                                have p261 : 0 ≤ (0 : Int) := (by omega)
                                have q261 : 0 < (l0.length : Int) := of_decide_eq_true (by first | (with_reducible assumption) | assumption)
                                obtain ⟨ad261, e261, hx261_0⟩ := Kd.at_string HR0.out 0 p261 q261
                                cases e261
                                have qi261 : (0 < l0.length) = True := eq_true (by omega)
                                (try rw [show ((0 : Int)).toNat = 0 from rfl] at hx261_0)
                                (try rw [Addr.add_zero'] at hx261_0)
                                replace hx261_0 := (HB.out.cell (World.block_lt_of_cell? w _ hx261_0)).trans hx261_0
                                replace p261 := eq_true p261
                                replace q261 := eq_true q261
                                go_wp2
                                go_meet
                                case rel => exact ⟨_, (((rdOf ByteArray.empty l0 0).toList == ([33] : List UInt8))), (by first | rfl | (simp; done) | (simp [*]; done)), H', ⟨by have := HJ6.out; have := HJ15.out; have := HJ26.out; first | omega | exact Nat.le_refl _⟩, ⟨by repeat (first | (with_reducible first | exact HB.out | apply below_alloc | apply pw_below_drewN | apply below_drew1) | exact HB.out)⟩⟩
                              · rw [if_neg c43] at H
                                exact absurd H (by simp)
                            · rw [if_neg c42] at H
                              have c42b0 : ((l0.length : Int) == 4) = false := beq_eq_false_iff_ne.mpr c42
                              have c42b1 : ((l0.length : Int) != 4) = true := bne_iff_ne.mpr c42
                              have H' := Aside0.mk H
                              clear H
                              go_wp2
                              go_meet
                              case rel => exact ⟨_, (false), (by first | rfl | (simp; done) | (simp [*]; done)), H', ⟨by have := HJ6.out; have := HJ15.out; have := HJ26.out; first | omega | exact Nat.le_refl _⟩, ⟨by repeat (first | (with_reducible first | exact HB.out | apply below_alloc | apply pw_below_drewN | apply below_drew1) | exact HB.out)⟩⟩
                        case rest =>
                          clear HC39
                          try clear c1
                          try clear c2
                          try clear p2
                          try clear q2
                          try clear hx2
                          try clear qi2
                          try clear c3
                          try clear c3b0
                          try clear c3b1
                          try clear c3b2
                          try clear c4
                          try clear c4b0
                          try clear c4b1
                          try clear c5
                          try clear c5b0
                          try clear c5b1
                          try clear c6
                          try clear c8
                          try clear c8b0
                          try clear c8b1
                          try clear c9
                          try clear c9b0
                          try clear c9b1
                          try clear c10
                          try clear c11
                          try clear c11b0
                          try clear c11b1
                          try clear c12
                          try clear c14
                          try clear c17
                          try clear c17b0
                          try clear c17b1
                          try clear c18
                          try clear c18b0
                          try clear c18b1
                          try clear c21
                          try clear c22
                          try clear c22b0
                          try clear c22b1
                          try clear c23
                          try clear c23b0
                          try clear c23b1
                          try clear p24
                          try clear q24
                          try clear hx24
                          try clear qi24
                          try clear p25
                          try clear q25
                          try clear hx25
                          try clear qi25
                          try clear p26
                          try clear q26
                          try clear hx26
                          try clear qi26
                          try clear c28
                          try clear c28b0
                          try clear c28b1
                          try clear c29
                          try clear c29b0
                          try clear c29b1
                          try clear c32
                          try clear c33
                          try clear c33b0
                          try clear c33b1
                          try clear c34
                          try clear c34b0
                          try clear c34b1
                          try clear c35
                          try clear c35b0
                          try clear c35b1
                          try clear c40
                          try clear c40b0
                          try clear c40b1
                          try clear c41
                          try clear c41b0
                          try clear c41b1
                          try clear c42
                          try clear c42b0
                          try clear c42b1
                          try clear c43
                          try clear c43b0
                          try clear c43b1
                          try clear hx243_0
                          try clear hx245_0
                          try clear hx249_0
                          try clear hx251_0
                          try clear hx252_0
                          try clear hx254_0
                          try clear hx256_0
                          try clear hx257_0
                          try clear hx258_0
                          try clear hx260_0
                          try clear hx261_0
                          try clear p2
                          try clear p24
                          try clear p243
                          try clear p245
                          try clear p249
                          try clear p25
                          try clear p251
                          try clear p252
                          try clear p254
                          try clear p256
                          try clear p257
                          try clear p258
                          try clear p260
                          try clear p261
                          try clear q2
                          try clear q24
                          try clear q243
                          try clear q245
                          try clear q249
                          try clear q25
                          try clear q251
                          try clear q252
                          try clear q254
                          try clear q256
                          try clear q257
                          try clear q258
                          try clear q260
                          try clear q261
                          obtain ⟨kq, x69_38, rfl, HA, HJ38, HB⟩ := hcut
                          cases kq with
                          | zero => exact absurd HA.out (by simp [cowrieref10_Eval.j3])
                          | succ kj38 =>
                            have H := HA.out
                            clear HA
                            simp only [cowrieref10_Eval.j3] at H
                            by_cases c44 : x69_38 = true
                            · subst c44
                              have H1 : (if 1 ≤ (l0.length : Int) then ((cowrieref10_Eval.f kj38 (l0.drop 1) l1).bind fun t263 => ((cowrieref10_opposite.f t263).bind fun t264 => (some t264))) else (none)) = some r := by rw [if_pos rfl] at H; exact H
                              clear H
                              have H := H1
                              clear H1
                              by_cases c45 : 1 ≤ (l0.length : Int)
                              · rw [if_pos c45] at H
                                have c45b0 := eq_true c45
                                have c45b1 : decide (1 ≤ (l0.length : Int)) = true := decide_eq_true c45
                                clear c45
                                replace H := Option.bind_eq_some_iff.mp H
                                obtain ⟨t263, A460, H⟩ := H
                                replace H : ((cowrieref10_opposite.f t263).bind fun t264 => (some t264)) = some r := H
                                have A46 := Aside0.mk A460
                                clear A460
                                replace H := Option.bind_eq_some_iff.mp H
                                obtain ⟨t264, A470, H⟩ := H
                                replace H : (some t264) = some r := H
                                have A47 := Aside0.mk A470
                                clear A470
                                obtain rfl := Option.some.inj H
                                obtain ⟨i048, hi048, _, hsz48, _⟩ := info_parts info9
                                obtain ⟨A48, hcut48, hA48, hC48⟩ := print_drop_of (P := Tryz.prog) Value.string (⟨#[]⟩ : ByteArray) 22 9 .i64 Tryz.underlying22 hi048 hsz48 A0 c0 l0 1 (by omega) (of_decide_eq_true (by first | (with_reducible assumption) | assumption)) HC0.out
                                have HR262 := Aside0.mk (Kd.C_of_reads (h1 := fun _ => rfl) (hA48 _ (Kd.reads_of_C HR0.out)))
                                have HC262 := Aside0.mk hC48
                                clear hA48 hC48 hi048 hsz48
                                go_wp2_with (first | ((with_reducible refine gate_callee (f := 6) rfl ?_); refine goesL_ (some 85) rfl rfl Tryz.func6 (by kernel_rfl) rfl #[.slice A48 (l0.drop 1).length (c0 - 1), .slice A1 l1.length c1] rfl (by (try simp only [List.map_toArray, List.map_cons, List.map_nil]); first | done | (rw [show (l0.drop 1).length = (l0.length - 1) from List.length_drop] <;> rfl) | rfl | (simp only [List.length_drop, List.length_take]; rfl)) ?_; (with_reducible refine (ih kj38 (by have := HJ6.out; have := HJ15.out; have := HJ26.out; have := HJ38.out; omega) _ _ (l0.drop 1) _ _ l1 t263 _ ?side1 ?side2 ?side3 ?side4 A46.out).mono ?_); (case side1 => repeat (first | exact (Kd.C_below HR262.out HB.out) | (with_reducible refine Kd.C_alloc ?_ _) | (with_reducible refine Kd.C_drewN ?_ _) | (with_reducible refine Kd.C_drew ?_))); (case side2 => exact HC262.out); (case side3 => repeat (first | exact (Kd.C_below HR1.out HB.out) | (with_reducible refine Kd.C_alloc ?_ _) | (with_reducible refine Kd.C_drewN ?_ _) | (with_reducible refine Kd.C_drew ?_))); (case side4 => exact HC1.out); rintro e w49 ⟨rfl, hb⟩; refine ⟨_, rfl, ?_⟩; have n0_ := Aside0.mk (below_step (by repeat (first | (with_reducible first | exact HB.out | apply below_alloc | apply pw_below_drewN | apply below_drew1) | exact HB.out)) hb); clear HB; have HB := n0_; clear n0_; (try clear hb); (try clear hb2); (try clear hk); (try clear hi)) | ((with_reducible refine gate_callee (f := 43) rfl ?_); refine goesL_ (some 86) rfl rfl Tryz.func43 (by kernel_rfl) rfl #[.int .i64 t263] rfl (by (try simp only [List.map_toArray, List.map_cons, List.map_nil]); first | done | rfl | (simp only [List.length_drop, List.length_take]; rfl)) ?_; (with_reducible refine (cowrieref10_opposite.calls t263 t264 _ A47.out).mono ?_); rintro e w' ⟨rfl, ⟨nd, rfl⟩⟩; refine ⟨_, rfl, ?_⟩))
                                go_ret
                                exact ⟨by first | rfl | (simp [errW_none, errW_some] <;> rfl) | (simp [*, errW_none, errW_some] <;> rfl), by repeat (first | (with_reducible first | exact HB.out | apply below_alloc | apply pw_below_drewN | apply below_drew1) | exact HB.out)⟩
                              · rw [if_neg c45] at H
                                exact absurd H (by simp)
                            · replace c44 := Bool.eq_false_iff.mpr c44
                              subst c44
                              have H1 : (if (l0.length : Int) = 3 then (if 0 < (l0.length : Int) then (if (rdOf ByteArray.empty l0 0).toList = ([40] : List UInt8) then (if 0 ≤ (wrap64 ((l0.length : Int) - 1)) then (if (wrap64 ((l0.length : Int) - 1)) < (l0.length : Int) then (if (rdOf ByteArray.empty l0 (wrap64 ((l0.length : Int) - 1))).toList = ([41] : List UInt8) then (if 1 ≤ (wrap64 ((l0.length : Int) - 1)) then (if (wrap64 ((l0.length : Int) - 1)) ≤ (l0.length : Int) then ((cowrieref10_Eval.f kj38 ((l0.take ((wrap64 ((l0.length : Int) - 1)) : Int).toNat).drop 1) l1).bind fun t268 => (some t268)) else (none)) else (none)) else (some 2)) else (none)) else (none)) else (some 2)) else (none)) else (if (l0.length : Int) = 4 then (if 0 < (l0.length : Int) then (if (rdOf ByteArray.empty l0 0).toList = ([40] : List UInt8) then (if 0 ≤ (wrap64 ((l0.length : Int) - 1)) then (if (wrap64 ((l0.length : Int) - 1)) < (l0.length : Int) then (if (rdOf ByteArray.empty l0 (wrap64 ((l0.length : Int) - 1))).toList = ([41] : List UInt8) then (if 1 ≤ (wrap64 ((l0.length : Int) - 1)) then (if (wrap64 ((l0.length : Int) - 1)) ≤ (l0.length : Int) then ((cowrieref10_Eval.f kj38 ((l0.take ((wrap64 ((l0.length : Int) - 1)) : Int).toNat).drop 1) l1).bind fun t272 => (some t272)) else (none)) else (none)) else (some 2)) else (none)) else (none)) else (some 2)) else (none)) else (some 2))) = some r := by rw [if_neg (show ¬ (false = true) by decide)] at H; exact H
                              clear H
                              have H := H1
                              clear H1
                              by_cases c50 : (l0.length : Int) = 3
                              · rw [if_pos c50] at H
                                have c50b0 : ((l0.length : Int) == 3) = true := beq_iff_eq.mpr c50
                                have c50b1 : ((l0.length : Int) != 3) = false := bne_eq_false_iff_eq.mpr c50
                                clear c50
                                by_cases c51 : 0 < (l0.length : Int)
                                · rw [if_pos c51] at H
                                  have c51b0 : decide (0 < (l0.length : Int)) = true := decide_eq_true c51
                                  have c51b1 : decide (0 < l0.length) = true := decide_eq_true (by omega)
                                  clear c51
                                  by_cases c52 : (rdOf ByteArray.empty l0 0).toList = ([40] : List UInt8)
                                  · rw [if_pos c52] at H
                                    have c52b0 : ((rdOf ByteArray.empty l0 0).toList == ([40] : List UInt8)) = true := beq_iff_eq.mpr c52
                                    have c52b1 : ((rdOf ByteArray.empty l0 0).toList != ([40] : List UInt8)) = false := bne_eq_false_iff_eq.mpr c52
                                    clear c52
                                    obtain ⟨ji53, hji53⟩ : ∃ j_ : Int, (wrap64 ((l0.length : Int) - 1)) = j_ := ⟨_, rfl⟩
                                    replace H : (if 0 ≤ (ji53) then (if (ji53) < (l0.length : Int) then (if (rdOf ByteArray.empty l0 (ji53)).toList = ([41] : List UInt8) then (if 1 ≤ (ji53) then (if (ji53) ≤ (l0.length : Int) then ((cowrieref10_Eval.f kj38 ((l0.take ((ji53) : Int).toNat).drop 1) l1).bind fun t268 => (some t268)) else (none)) else (none)) else (some 2)) else (none)) else (none)) = some r := by first | (rw [hji53] at H; exact H) | (simp only [hji53] at H ⊢; exact H)
                                    have hji53w : (IntKind.i64.wrap ((l0.length : Int) - 1)) = ji53 := (i64_w _).trans hji53
                                    by_cases c54 : 0 ≤ (ji53)
                                    · rw [if_pos c54] at H
                                      have c54b0 : decide (0 ≤ (ji53)) = true := decide_eq_true c54
                                      clear c54
                                      by_cases c55 : (ji53) < (l0.length : Int)
                                      · rw [if_pos c55] at H
                                        have c55b0 : decide ((ji53) < (l0.length : Int)) = true := decide_eq_true c55
                                        clear c55
                                        by_cases c56 : (rdOf ByteArray.empty l0 (ji53)).toList = ([41] : List UInt8)
                                        · rw [if_pos c56] at H
                                          have c56b0 : ((rdOf ByteArray.empty l0 (ji53)).toList == ([41] : List UInt8)) = true := beq_iff_eq.mpr c56
                                          have c56b1 : ((rdOf ByteArray.empty l0 (ji53)).toList != ([41] : List UInt8)) = false := bne_eq_false_iff_eq.mpr c56
                                          clear c56
                                          by_cases c57 : 1 ≤ (ji53)
                                          · rw [if_pos c57] at H
                                            have c57b0 := eq_true c57
                                            have c57b1 : decide (1 ≤ (ji53)) = true := decide_eq_true c57
                                            clear c57
                                            by_cases c58 : (ji53) ≤ (l0.length : Int)
                                            · rw [if_pos c58] at H
                                              have c58b0 := eq_true c58
                                              have c58b1 : decide ((ji53) ≤ (l0.length : Int)) = true := decide_eq_true c58
                                              clear c58
                                              replace H := Option.bind_eq_some_iff.mp H
                                              obtain ⟨t268, A590, H⟩ := H
                                              replace H : (some t268) = some r := H
                                              have A59 := Aside0.mk A590
                                              clear A590
                                              obtain rfl := Option.some.inj H
                                              have p265 : 0 ≤ (0 : Int) := (by omega)
                                              have q265 : 0 < (l0.length : Int) := of_decide_eq_true (by first | (with_reducible assumption) | assumption)
                                              obtain ⟨ad265, e265, hx265_0⟩ := Kd.at_string HR0.out 0 p265 q265
                                              cases e265
                                              have qi265 : (0 < l0.length) = True := eq_true (by omega)
                                              (try rw [show ((0 : Int)).toNat = 0 from rfl] at hx265_0)
                                              (try rw [Addr.add_zero'] at hx265_0)
                                              replace hx265_0 := (HB.out.cell (World.block_lt_of_cell? w _ hx265_0)).trans hx265_0
                                              replace p265 := eq_true p265
                                              replace q265 := eq_true q265
                                              have p266 : 0 ≤ ((ji53) : Int) := of_decide_eq_true (by first | (with_reducible assumption) | assumption)
                                              have q266 : (ji53) < (l0.length : Int) := of_decide_eq_true (by first | (with_reducible assumption) | assumption)
                                              obtain ⟨ad266, e266, hx266_0⟩ := Kd.at_string HR0.out (ji53) p266 q266
                                              obtain rfl : ad265 = ad266 := (by injection e266)
                                              replace hx266_0 := (HB.out.cell (World.block_lt_of_cell? w _ hx266_0)).trans hx266_0
                                              replace p266 := eq_true p266
                                              replace q266 := eq_true q266
                                              obtain ⟨i060, hi060, _, hsz60, _⟩ := info_parts info9
                                              obtain ⟨A60, hcut60, hA60, hC60⟩ := print_mid_of (P := Tryz.prog) Value.string (⟨#[]⟩ : ByteArray) 22 9 .i64 .i64 Tryz.underlying22 hi060 hsz60 (some ad265) c0 l0 1 (ji53) (by omega) (by first | omega | exact of_decide_eq_true (by first | (with_reducible assumption) | assumption)) (of_decide_eq_true (by first | (with_reducible assumption) | assumption)) HC0.out
                                              have HR267 := Aside0.mk (Kd.C_of_reads (h1 := fun _ => rfl) (hA60 _ (Kd.reads_of_C HR0.out)))
                                              have HC267 := Aside0.mk hC60
                                              clear hA60 hC60 hi060 hsz60
                                              go_wp2_with (first | ((with_reducible refine gate_callee (f := 6) rfl ?_); refine goesL_ (some 113) rfl rfl Tryz.func6 (by kernel_rfl) rfl #[.slice A60 ((l0.take ((ji53) : Int).toNat).drop 1).length (c0 - 1), .slice A1 l1.length c1] rfl (by (try simp only [List.map_toArray, List.map_cons, List.map_nil]); first | done | (rw [show ((l0.take ((ji53) : Int).toNat).drop 1).length = ((ji53).toNat - 1) from (by rw [List.length_drop, List.length_take]; have h_ : ((ji53) : Int) ≤ (l0.length : Int) := of_decide_eq_true (by first | (with_reducible assumption) | assumption); omega)] <;> rfl) | (simp only [hji53]; rfl) | rfl | (simp only [List.length_drop, List.length_take]; rfl)) ?_; (with_reducible refine (ih kj38 (by have := HJ6.out; have := HJ15.out; have := HJ26.out; have := HJ38.out; omega) _ _ ((l0.take ((ji53) : Int).toNat).drop 1) _ _ l1 t268 _ ?side1 ?side2 ?side3 ?side4 A59.out).mono ?_); (case side1 => repeat (first | exact (Kd.C_below HR267.out HB.out) | (with_reducible refine Kd.C_alloc ?_ _) | (with_reducible refine Kd.C_drewN ?_ _) | (with_reducible refine Kd.C_drew ?_))); (case side2 => exact HC267.out); (case side3 => repeat (first | exact (Kd.C_below HR1.out HB.out) | (with_reducible refine Kd.C_alloc ?_ _) | (with_reducible refine Kd.C_drewN ?_ _) | (with_reducible refine Kd.C_drew ?_))); (case side4 => exact HC1.out); rintro e w61 ⟨rfl, hb⟩; refine ⟨_, rfl, ?_⟩; have n0_ := Aside0.mk (below_step (by repeat (first | (with_reducible first | exact HB.out | apply below_alloc | apply pw_below_drewN | apply below_drew1) | exact HB.out)) hb); clear HB; have HB := n0_; clear n0_; (try clear hb); (try clear hb2); (try clear hk); (try clear hi)))
                                              go_ret
                                              exact ⟨by first | rfl | (simp [errW_none, errW_some] <;> rfl) | (simp only [← hji53]; first | rfl | (simp [errW_none, errW_some] <;> rfl)) | (simp [*, errW_none, errW_some] <;> rfl), by repeat (first | (with_reducible first | exact HB.out | apply below_alloc | apply pw_below_drewN | apply below_drew1) | exact HB.out)⟩
                                            · rw [if_neg c58] at H
                                              exact absurd H (by simp)
                                          · rw [if_neg c57] at H
                                            exact absurd H (by simp)
                                        · rw [if_neg c56] at H
                                          have c56b0 : ((rdOf ByteArray.empty l0 (ji53)).toList == ([41] : List UInt8)) = false := beq_eq_false_iff_ne.mpr c56
                                          have c56b1 : ((rdOf ByteArray.empty l0 (ji53)).toList != ([41] : List UInt8)) = true := bne_iff_ne.mpr c56
                                          obtain rfl := Option.some.inj H
                                          have p265 : 0 ≤ (0 : Int) := (by omega)
                                          have q265 : 0 < (l0.length : Int) := of_decide_eq_true (by first | (with_reducible assumption) | assumption)
                                          obtain ⟨ad265, e265, hx265_0⟩ := Kd.at_string HR0.out 0 p265 q265
                                          cases e265
                                          have qi265 : (0 < l0.length) = True := eq_true (by omega)
                                          (try rw [show ((0 : Int)).toNat = 0 from rfl] at hx265_0)
                                          (try rw [Addr.add_zero'] at hx265_0)
                                          replace hx265_0 := (HB.out.cell (World.block_lt_of_cell? w _ hx265_0)).trans hx265_0
                                          replace p265 := eq_true p265
                                          replace q265 := eq_true q265
                                          have p266 : 0 ≤ ((ji53) : Int) := of_decide_eq_true (by first | (with_reducible assumption) | assumption)
                                          have q266 : (ji53) < (l0.length : Int) := of_decide_eq_true (by first | (with_reducible assumption) | assumption)
                                          obtain ⟨ad266, e266, hx266_0⟩ := Kd.at_string HR0.out (ji53) p266 q266
                                          obtain rfl : ad265 = ad266 := (by injection e266)
                                          replace hx266_0 := (HB.out.cell (World.block_lt_of_cell? w _ hx266_0)).trans hx266_0
                                          replace p266 := eq_true p266
                                          replace q266 := eq_true q266
                                          go_wp2
                                          go_ret
                                          exact ⟨by first | rfl | (simp [errW_none, errW_some] <;> rfl) | (simp only [← hji53]; first | rfl | (simp [errW_none, errW_some] <;> rfl)) | (simp [*, errW_none, errW_some] <;> rfl), by repeat (first | (with_reducible first | exact HB.out | apply below_alloc | apply pw_below_drewN | apply below_drew1) | exact HB.out)⟩
                                      · rw [if_neg c55] at H
                                        exact absurd H (by simp)
                                    · rw [if_neg c54] at H
                                      exact absurd H (by simp)
                                  · rw [if_neg c52] at H
                                    have c52b0 : ((rdOf ByteArray.empty l0 0).toList == ([40] : List UInt8)) = false := beq_eq_false_iff_ne.mpr c52
                                    have c52b1 : ((rdOf ByteArray.empty l0 0).toList != ([40] : List UInt8)) = true := bne_iff_ne.mpr c52
                                    obtain rfl := Option.some.inj H
                                    have p265 : 0 ≤ (0 : Int) := (by omega)
                                    have q265 : 0 < (l0.length : Int) := of_decide_eq_true (by first | (with_reducible assumption) | assumption)
                                    obtain ⟨ad265, e265, hx265_0⟩ := Kd.at_string HR0.out 0 p265 q265
                                    cases e265
                                    have qi265 : (0 < l0.length) = True := eq_true (by omega)
                                    (try rw [show ((0 : Int)).toNat = 0 from rfl] at hx265_0)
                                    (try rw [Addr.add_zero'] at hx265_0)
                                    replace hx265_0 := (HB.out.cell (World.block_lt_of_cell? w _ hx265_0)).trans hx265_0
                                    replace p265 := eq_true p265
                                    replace q265 := eq_true q265
                                    go_wp2
                                    go_ret
                                    exact ⟨by first | rfl | (simp [errW_none, errW_some] <;> rfl) | (simp [*, errW_none, errW_some] <;> rfl), by repeat (first | (with_reducible first | exact HB.out | apply below_alloc | apply pw_below_drewN | apply below_drew1) | exact HB.out)⟩
                                · rw [if_neg c51] at H
                                  exact absurd H (by simp)
                              · rw [if_neg c50] at H
                                have c50b0 : ((l0.length : Int) == 3) = false := beq_eq_false_iff_ne.mpr c50
                                have c50b1 : ((l0.length : Int) != 3) = true := bne_iff_ne.mpr c50
                                by_cases c62 : (l0.length : Int) = 4
                                · rw [if_pos c62] at H
                                  have c62b0 : ((l0.length : Int) == 4) = true := beq_iff_eq.mpr c62
                                  have c62b1 : ((l0.length : Int) != 4) = false := bne_eq_false_iff_eq.mpr c62
                                  clear c62
                                  by_cases c63 : 0 < (l0.length : Int)
                                  · rw [if_pos c63] at H
                                    have c63b0 : decide (0 < (l0.length : Int)) = true := decide_eq_true c63
                                    have c63b1 : decide (0 < l0.length) = true := decide_eq_true (by omega)
                                    clear c63
                                    by_cases c64 : (rdOf ByteArray.empty l0 0).toList = ([40] : List UInt8)
                                    · rw [if_pos c64] at H
                                      have c64b0 : ((rdOf ByteArray.empty l0 0).toList == ([40] : List UInt8)) = true := beq_iff_eq.mpr c64
                                      have c64b1 : ((rdOf ByteArray.empty l0 0).toList != ([40] : List UInt8)) = false := bne_eq_false_iff_eq.mpr c64
                                      clear c64
                                      obtain ⟨ji65, hji65⟩ : ∃ j_ : Int, (wrap64 ((l0.length : Int) - 1)) = j_ := ⟨_, rfl⟩
                                      replace H : (if 0 ≤ (ji65) then (if (ji65) < (l0.length : Int) then (if (rdOf ByteArray.empty l0 (ji65)).toList = ([41] : List UInt8) then (if 1 ≤ (ji65) then (if (ji65) ≤ (l0.length : Int) then ((cowrieref10_Eval.f kj38 ((l0.take ((ji65) : Int).toNat).drop 1) l1).bind fun t272 => (some t272)) else (none)) else (none)) else (some 2)) else (none)) else (none)) = some r := by first | (rw [hji65] at H; exact H) | (simp only [hji65] at H ⊢; exact H)
                                      have hji65w : (IntKind.i64.wrap ((l0.length : Int) - 1)) = ji65 := (i64_w _).trans hji65
                                      by_cases c66 : 0 ≤ (ji65)
                                      · rw [if_pos c66] at H
                                        have c66b0 : decide (0 ≤ (ji65)) = true := decide_eq_true c66
                                        clear c66
                                        by_cases c67 : (ji65) < (l0.length : Int)
                                        · rw [if_pos c67] at H
                                          have c67b0 : decide ((ji65) < (l0.length : Int)) = true := decide_eq_true c67
                                          clear c67
                                          by_cases c68 : (rdOf ByteArray.empty l0 (ji65)).toList = ([41] : List UInt8)
                                          · rw [if_pos c68] at H
                                            have c68b0 : ((rdOf ByteArray.empty l0 (ji65)).toList == ([41] : List UInt8)) = true := beq_iff_eq.mpr c68
                                            have c68b1 : ((rdOf ByteArray.empty l0 (ji65)).toList != ([41] : List UInt8)) = false := bne_eq_false_iff_eq.mpr c68
                                            clear c68
                                            by_cases c69 : 1 ≤ (ji65)
                                            · rw [if_pos c69] at H
                                              have c69b0 := eq_true c69
                                              have c69b1 : decide (1 ≤ (ji65)) = true := decide_eq_true c69
                                              clear c69
                                              by_cases c70 : (ji65) ≤ (l0.length : Int)
                                              · rw [if_pos c70] at H
                                                have c70b0 := eq_true c70
                                                have c70b1 : decide ((ji65) ≤ (l0.length : Int)) = true := decide_eq_true c70
                                                clear c70
                                                replace H := Option.bind_eq_some_iff.mp H
                                                obtain ⟨t272, A710, H⟩ := H
                                                replace H : (some t272) = some r := H
                                                have A71 := Aside0.mk A710
                                                clear A710
                                                obtain rfl := Option.some.inj H
                                                have p269 : 0 ≤ (0 : Int) := (by omega)
                                                have q269 : 0 < (l0.length : Int) := of_decide_eq_true (by first | (with_reducible assumption) | assumption)
                                                obtain ⟨ad269, e269, hx269_0⟩ := Kd.at_string HR0.out 0 p269 q269
                                                cases e269
                                                have qi269 : (0 < l0.length) = True := eq_true (by omega)
                                                (try rw [show ((0 : Int)).toNat = 0 from rfl] at hx269_0)
                                                (try rw [Addr.add_zero'] at hx269_0)
                                                replace hx269_0 := (HB.out.cell (World.block_lt_of_cell? w _ hx269_0)).trans hx269_0
                                                replace p269 := eq_true p269
                                                replace q269 := eq_true q269
                                                have p270 : 0 ≤ ((ji65) : Int) := of_decide_eq_true (by first | (with_reducible assumption) | assumption)
                                                have q270 : (ji65) < (l0.length : Int) := of_decide_eq_true (by first | (with_reducible assumption) | assumption)
                                                obtain ⟨ad270, e270, hx270_0⟩ := Kd.at_string HR0.out (ji65) p270 q270
                                                obtain rfl : ad269 = ad270 := (by injection e270)
                                                replace hx270_0 := (HB.out.cell (World.block_lt_of_cell? w _ hx270_0)).trans hx270_0
                                                replace p270 := eq_true p270
                                                replace q270 := eq_true q270
                                                obtain ⟨i072, hi072, _, hsz72, _⟩ := info_parts info9
                                                obtain ⟨A72, hcut72, hA72, hC72⟩ := print_mid_of (P := Tryz.prog) Value.string (⟨#[]⟩ : ByteArray) 22 9 .i64 .i64 Tryz.underlying22 hi072 hsz72 (some ad269) c0 l0 1 (ji65) (by omega) (by first | omega | exact of_decide_eq_true (by first | (with_reducible assumption) | assumption)) (of_decide_eq_true (by first | (with_reducible assumption) | assumption)) HC0.out
                                                have HR271 := Aside0.mk (Kd.C_of_reads (h1 := fun _ => rfl) (hA72 _ (Kd.reads_of_C HR0.out)))
                                                have HC271 := Aside0.mk hC72
                                                clear hA72 hC72 hi072 hsz72
                                                go_wp2_with (first | ((with_reducible refine gate_callee (f := 6) rfl ?_); refine goesL_ (some 113) rfl rfl Tryz.func6 (by kernel_rfl) rfl #[.slice A72 ((l0.take ((ji65) : Int).toNat).drop 1).length (c0 - 1), .slice A1 l1.length c1] rfl (by (try simp only [List.map_toArray, List.map_cons, List.map_nil]); first | done | (rw [show ((l0.take ((ji65) : Int).toNat).drop 1).length = ((ji65).toNat - 1) from (by rw [List.length_drop, List.length_take]; have h_ : ((ji65) : Int) ≤ (l0.length : Int) := of_decide_eq_true (by first | (with_reducible assumption) | assumption); omega)] <;> rfl) | (simp only [hji65]; rfl) | rfl | (simp only [List.length_drop, List.length_take]; rfl)) ?_; (with_reducible refine (ih kj38 (by have := HJ6.out; have := HJ15.out; have := HJ26.out; have := HJ38.out; omega) _ _ ((l0.take ((ji65) : Int).toNat).drop 1) _ _ l1 t272 _ ?side1 ?side2 ?side3 ?side4 A71.out).mono ?_); (case side1 => repeat (first | exact (Kd.C_below HR271.out HB.out) | (with_reducible refine Kd.C_alloc ?_ _) | (with_reducible refine Kd.C_drewN ?_ _) | (with_reducible refine Kd.C_drew ?_))); (case side2 => exact HC271.out); (case side3 => repeat (first | exact (Kd.C_below HR1.out HB.out) | (with_reducible refine Kd.C_alloc ?_ _) | (with_reducible refine Kd.C_drewN ?_ _) | (with_reducible refine Kd.C_drew ?_))); (case side4 => exact HC1.out); rintro e w73 ⟨rfl, hb⟩; refine ⟨_, rfl, ?_⟩; have n0_ := Aside0.mk (below_step (by repeat (first | (with_reducible first | exact HB.out | apply below_alloc | apply pw_below_drewN | apply below_drew1) | exact HB.out)) hb); clear HB; have HB := n0_; clear n0_; (try clear hb); (try clear hb2); (try clear hk); (try clear hi)))
                                                go_ret
                                                exact ⟨by first | rfl | (simp [errW_none, errW_some] <;> rfl) | (simp only [← hji65]; first | rfl | (simp [errW_none, errW_some] <;> rfl)) | (simp [*, errW_none, errW_some] <;> rfl), by repeat (first | (with_reducible first | exact HB.out | apply below_alloc | apply pw_below_drewN | apply below_drew1) | exact HB.out)⟩
                                              · rw [if_neg c70] at H
                                                exact absurd H (by simp)
                                            · rw [if_neg c69] at H
                                              exact absurd H (by simp)
                                          · rw [if_neg c68] at H
                                            have c68b0 : ((rdOf ByteArray.empty l0 (ji65)).toList == ([41] : List UInt8)) = false := beq_eq_false_iff_ne.mpr c68
                                            have c68b1 : ((rdOf ByteArray.empty l0 (ji65)).toList != ([41] : List UInt8)) = true := bne_iff_ne.mpr c68
                                            obtain rfl := Option.some.inj H
                                            have p269 : 0 ≤ (0 : Int) := (by omega)
                                            have q269 : 0 < (l0.length : Int) := of_decide_eq_true (by first | (with_reducible assumption) | assumption)
                                            obtain ⟨ad269, e269, hx269_0⟩ := Kd.at_string HR0.out 0 p269 q269
                                            cases e269
                                            have qi269 : (0 < l0.length) = True := eq_true (by omega)
                                            (try rw [show ((0 : Int)).toNat = 0 from rfl] at hx269_0)
                                            (try rw [Addr.add_zero'] at hx269_0)
                                            replace hx269_0 := (HB.out.cell (World.block_lt_of_cell? w _ hx269_0)).trans hx269_0
                                            replace p269 := eq_true p269
                                            replace q269 := eq_true q269
                                            have p270 : 0 ≤ ((ji65) : Int) := of_decide_eq_true (by first | (with_reducible assumption) | assumption)
                                            have q270 : (ji65) < (l0.length : Int) := of_decide_eq_true (by first | (with_reducible assumption) | assumption)
                                            obtain ⟨ad270, e270, hx270_0⟩ := Kd.at_string HR0.out (ji65) p270 q270
                                            obtain rfl : ad269 = ad270 := (by injection e270)
                                            replace hx270_0 := (HB.out.cell (World.block_lt_of_cell? w _ hx270_0)).trans hx270_0
                                            replace p270 := eq_true p270
                                            replace q270 := eq_true q270
                                            go_wp2
                                            go_ret
                                            exact ⟨by first | rfl | (simp [errW_none, errW_some] <;> rfl) | (simp only [← hji65]; first | rfl | (simp [errW_none, errW_some] <;> rfl)) | (simp [*, errW_none, errW_some] <;> rfl), by repeat (first | (with_reducible first | exact HB.out | apply below_alloc | apply pw_below_drewN | apply below_drew1) | exact HB.out)⟩
                                        · rw [if_neg c67] at H
                                          exact absurd H (by simp)
                                      · rw [if_neg c66] at H
                                        exact absurd H (by simp)
                                    · rw [if_neg c64] at H
                                      have c64b0 : ((rdOf ByteArray.empty l0 0).toList == ([40] : List UInt8)) = false := beq_eq_false_iff_ne.mpr c64
                                      have c64b1 : ((rdOf ByteArray.empty l0 0).toList != ([40] : List UInt8)) = true := bne_iff_ne.mpr c64
                                      obtain rfl := Option.some.inj H
                                      have p269 : 0 ≤ (0 : Int) := (by omega)
                                      have q269 : 0 < (l0.length : Int) := of_decide_eq_true (by first | (with_reducible assumption) | assumption)
                                      obtain ⟨ad269, e269, hx269_0⟩ := Kd.at_string HR0.out 0 p269 q269
                                      cases e269
                                      have qi269 : (0 < l0.length) = True := eq_true (by omega)
                                      (try rw [show ((0 : Int)).toNat = 0 from rfl] at hx269_0)
                                      (try rw [Addr.add_zero'] at hx269_0)
                                      replace hx269_0 := (HB.out.cell (World.block_lt_of_cell? w _ hx269_0)).trans hx269_0
                                      replace p269 := eq_true p269
                                      replace q269 := eq_true q269
                                      go_wp2
                                      go_ret
                                      exact ⟨by first | rfl | (simp [errW_none, errW_some] <;> rfl) | (simp [*, errW_none, errW_some] <;> rfl), by repeat (first | (with_reducible first | exact HB.out | apply below_alloc | apply pw_below_drewN | apply below_drew1) | exact HB.out)⟩
                                  · rw [if_neg c63] at H
                                    exact absurd H (by simp)
                                · rw [if_neg c62] at H
                                  have c62b0 : ((l0.length : Int) == 4) = false := beq_eq_false_iff_ne.mpr c62
                                  have c62b1 : ((l0.length : Int) != 4) = true := bne_iff_ne.mpr c62
                                  obtain rfl := Option.some.inj H
                                  go_wp2
                                  go_ret
                                  exact ⟨by first | rfl | (simp [errW_none, errW_some] <;> rfl) | (simp [*, errW_none, errW_some] <;> rfl), by repeat (first | (with_reducible first | exact HB.out | apply below_alloc | apply pw_below_drewN | apply below_drew1) | exact HB.out)⟩
end Go.Proofs.YtdfddiehiiaepaaGreatDoor.Q

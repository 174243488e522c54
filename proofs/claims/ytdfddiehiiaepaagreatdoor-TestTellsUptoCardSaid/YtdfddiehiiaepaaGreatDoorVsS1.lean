-- Written by programs of the kit and of this session.
import Derived.Test.YtdfddiehiiaepaaGreatDoorVsP1
import Derived.Test.YtdfddiehiiaepaaGreatDoorVsAlive10
import Derived.Test.YtdfddiehiiaepaaGreatDoorVsQ2
import Derived.Test.YtdfddiehiiaepaaGreatDoorVsQ3
namespace Go.Proofs.YtdfddiehiiaepaaGreatDoor.S
open Go.RowKit Go.Proofs.YtdfddiehiiaepaaGreatDoorW.PrintWords Go.Proofs.YtdfddiehiiaepaaGreatDoorW.PrintLast Go.Proofs.YtdfddiehiiaepaaGreatDoor.P Go.Proofs.YtdfddiehiiaepaaGreatDoor.Q Go.Proofs.YtdfddiehiiaepaaGreatDoor.Ext Go.Proofs.YtdfddiehiiaepaaGreatDoorW.PrintMore
attribute [local go_sem] max2_int min2_int max_two min_two max_three min_three max_four min_four   -- for this text's walks alone
set_option linter.unusedVariables false
set_option linter.unusedSimpArgs false
def cowrielaw10_TestTells.j0 : Nat → List (S73) → ByteArray → ByteArray → ByteArray → Bool → Option (Bool)
  | 0, _, _, _, _, _ => none
  | k + 1, x1, x2, x3, x4, x31 => if x31 = true then (some false) else ((test_Single.f x2 x3 x1).bind fun t195 => ((cowrieref10_Single.f k x2 x3 x1).bind fun t196 => (if t195 = t196 then ((test_Both.f k x3 x2 x4).bind fun t197 => ((cowrieref10_Both.f k x3 x2 x4).bind fun t198 => (if t197 = t198 then ((cowrielaw10_alive.f).bind fun t199 => (some t199)) else (some false)))) else (some false))))
def cowrielaw10_TestTells.f (k : Nat) (l0 : List ByteArray) (l1 : List (S73)) (a2 : ByteArray) (a3 : ByteArray) (a4 : ByteArray) : Option (Bool) := (test_Eval.f l0 l1).bind fun t189 => ((cowrieref10_Eval.f k l0 l1).bind fun t190 => (if t189 = t190 then ((test_Unary.f a2).bind fun t191 => ((cowrieref10_Unary.f k a2).bind fun t192 => (if (t191 != t192) = true then (cowrielaw10_TestTells.j0 k l1 a2 a3 a4 true) else ((test_Binary.f a2).bind fun t193 => ((cowrieref10_Binary.f k a2).bind fun t194 => (cowrielaw10_TestTells.j0 k l1 a2 a3 a4 (t193 != t194))))))) else (cowrielaw10_TestTells.j0 k l1 a2 a3 a4 true)))
theorem cowrielaw10_TestTells.j0_bad : ∀ (k : Nat) x1 x2 x3 x4, cowrielaw10_TestTells.j0 k x1 x2 x3 x4 true ≠ some true
  | 0, _, _, _, _ => by simp [cowrielaw10_TestTells.j0]
  | k + 1, _, _, _, _ => by simp [cowrielaw10_TestTells.j0]
set_option maxHeartbeats 8000000 in
set_option maxRecDepth 100000 in
theorem cowrielaw10_TestTells.calls (k : Nat) (A0 : Option Addr) (c0 : Nat) (l0 : List ByteArray) (A1 : Option Addr) (c1 : Nat) (l1 : List (S73)) (a2 : ByteArray) (a3 : ByteArray) (a4 : ByteArray) (r : Bool) (w : World) (hT : Tab w) (hr0 : Kd.C Kd.string w A0 l0.length l0) (hc0 : l0.length ≤ c0) (hr1 : Kd.C k73 w A1 l1.length l1) (hc1 : l1.length ≤ c1) (h : cowrielaw10_TestTells.f k l0 l1 a2 a3 a4 = some r) (hrt_ : r = true) :
    Calls Tryz.prog 3 #[.slice A0 l0.length c0, .slice A1 l1.length c1, .string a2, .string a3, .string a4] w fun e w' => e = .returned (.bool r) ∧ Below w.heap.size w w' := by
  have HR0 := Aside0.mk hr0
  have HC0 := Aside0.mk hc0
  clear hr0 hc0
  have HR1 := Aside0.mk hr1
  have HC1 := Aside0.mk hc1
  clear hr1 hc1
  have HB := Aside0.mk (Below.refl w.heap.size w)
  have HTab_ := Aside0.mk hT
  clear hT
  have H : ((test_Eval.f l0 l1).bind fun t189 => ((cowrieref10_Eval.f k l0 l1).bind fun t190 => (if t189 = t190 then ((test_Unary.f a2).bind fun t191 => ((cowrieref10_Unary.f k a2).bind fun t192 => (if (t191 != t192) = true then (cowrielaw10_TestTells.j0 k l1 a2 a3 a4 true) else ((test_Binary.f a2).bind fun t193 => ((cowrieref10_Binary.f k a2).bind fun t194 => (cowrielaw10_TestTells.j0 k l1 a2 a3 a4 (t193 != t194))))))) else (cowrielaw10_TestTells.j0 k l1 a2 a3 a4 true)))) = some r := h
  clear h
  have HC6 := Aside0.mk H
  clear H
  go_enter Tryz.func3, Tryz.ntmps3
  go_upto_region 1 with (fail)
  go_cut [31] (fun v31 wc => ∃ (kq : Nat) (x31_5 : Bool), v31 = .bool x31_5 ∧ Aside0 (cowrielaw10_TestTells.j0 kq l1 a2 a3 a4 x31_5 = some r) ∧ Aside0 (kq ≤ k) ∧ Aside0 (Below w.heap.size w wc))
  case first =>
    have H := HC6.out
    clear HC6
    replace H := Option.bind_eq_some_iff.mp H
    obtain ⟨t189, A70, H⟩ := H
    replace H : ((cowrieref10_Eval.f k l0 l1).bind fun t190 => (if t189 = t190 then ((test_Unary.f a2).bind fun t191 => ((cowrieref10_Unary.f k a2).bind fun t192 => (if (t191 != t192) = true then (cowrielaw10_TestTells.j0 k l1 a2 a3 a4 true) else ((test_Binary.f a2).bind fun t193 => ((cowrieref10_Binary.f k a2).bind fun t194 => (cowrielaw10_TestTells.j0 k l1 a2 a3 a4 (t193 != t194))))))) else (cowrielaw10_TestTells.j0 k l1 a2 a3 a4 true))) = some r := H
    have A7 := Aside0.mk A70
    clear A70
    replace H := Option.bind_eq_some_iff.mp H
    obtain ⟨t190, A80, H⟩ := H
    replace H : (if t189 = t190 then ((test_Unary.f a2).bind fun t191 => ((cowrieref10_Unary.f k a2).bind fun t192 => (if (t191 != t192) = true then (cowrielaw10_TestTells.j0 k l1 a2 a3 a4 true) else ((test_Binary.f a2).bind fun t193 => ((cowrieref10_Binary.f k a2).bind fun t194 => (cowrielaw10_TestTells.j0 k l1 a2 a3 a4 (t193 != t194))))))) else (cowrielaw10_TestTells.j0 k l1 a2 a3 a4 true)) = some r := H
    have A8 := Aside0.mk A80
    clear A80
    by_cases c9 : t189 = t190
    · rw [if_pos c9] at H
      have c9b0 : (t189 == t190) = true := beq_iff_eq.mpr c9
      have c9b1 : (t189 != t190) = false := bne_eq_false_iff_eq.mpr c9
      clear c9
      (first | rw [c9b0] | (simp only [i64_w, i32_w]; rw [c9b0]) | skip)
      replace H := Option.bind_eq_some_iff.mp H
      obtain ⟨t191, A100, H⟩ := H
      replace H : ((cowrieref10_Unary.f k a2).bind fun t192 => (if (t191 != t192) = true then (cowrielaw10_TestTells.j0 k l1 a2 a3 a4 true) else ((test_Binary.f a2).bind fun t193 => ((cowrieref10_Binary.f k a2).bind fun t194 => (cowrielaw10_TestTells.j0 k l1 a2 a3 a4 (t193 != t194)))))) = some r := H
      have A10 := Aside0.mk A100
      clear A100
      replace H := Option.bind_eq_some_iff.mp H
      obtain ⟨t192, A110, H⟩ := H
      replace H : (if (t191 != t192) = true then (cowrielaw10_TestTells.j0 k l1 a2 a3 a4 true) else ((test_Binary.f a2).bind fun t193 => ((cowrieref10_Binary.f k a2).bind fun t194 => (cowrielaw10_TestTells.j0 k l1 a2 a3 a4 (t193 != t194))))) = some r := H
      have A11 := Aside0.mk A110
      clear A110
      by_cases c12 : (t191 != t192) = true
      · rw [if_pos c12] at H
        exact absurd (H.trans (congrArg some hrt_)) (cowrielaw10_TestTells.j0_bad _ _ _ _ _)
      · rw [if_neg c12] at H
        have c12b0 : (t191 != t192) = false := by simpa using c12
        (try (have c12b1 : decide (t191 = t192) = true := by simpa using c12))
        (try (have c12b2 : (t191 == t192) = true := by simpa using c12))
        clear c12
        replace H := Option.bind_eq_some_iff.mp H
        obtain ⟨t193, A170, H⟩ := H
        replace H : ((cowrieref10_Binary.f k a2).bind fun t194 => (cowrielaw10_TestTells.j0 k l1 a2 a3 a4 (t193 != t194))) = some r := H
        have A17 := Aside0.mk A170
        clear A170
        replace H := Option.bind_eq_some_iff.mp H
        obtain ⟨t194, A180, H⟩ := H
        replace H : (cowrielaw10_TestTells.j0 k l1 a2 a3 a4 (t193 != t194)) = some r := H
        have A18 := Aside0.mk A180
        clear A180
        have H' := Aside0.mk H
        clear H
        go_wp2_with (first | ((with_reducible refine gate_callee (f := 5) rfl ?_); refine goesL_ (some 13) rfl rfl Tryz.func5 (by kernel_rfl) rfl #[.slice A0 l0.length c0, .slice A1 l1.length c1] rfl (by (try simp only [List.map_toArray, List.map_cons, List.map_nil]); first | done | rfl | (simp only [List.length_drop, List.length_take]; rfl)) ?_; (with_reducible refine (test_Eval.calls _ _ l0 _ _ l1 t189 _ ?sideT ?side1 ?side2 ?side3 ?side4 A7.out).mono ?_); (case sideT => exact Tab.below HTab_.out (by repeat (first | (with_reducible first | exact HB.out | apply below_alloc | apply pw_below_drewN | apply below_drew1) | exact HB.out))); (case side1 => repeat (first | exact (Kd.C_below HR0.out HB.out) | (with_reducible refine Kd.C_alloc ?_ _) | (with_reducible refine Kd.C_drewN ?_ _) | (with_reducible refine Kd.C_drew ?_))); (case side2 => exact HC0.out); (case side3 => repeat (first | exact (Kd.C_below HR1.out HB.out) | (with_reducible refine Kd.C_alloc ?_ _) | (with_reducible refine Kd.C_drewN ?_ _) | (with_reducible refine Kd.C_drew ?_))); (case side4 => exact HC1.out); rintro e w19 ⟨rfl, hb⟩; refine ⟨_, rfl, ?_⟩; have n0_ := Aside0.mk (below_step (by repeat (first | (with_reducible first | exact HB.out | apply below_alloc | apply pw_below_drewN | apply below_drew1) | exact HB.out)) hb); clear HB; have HB := n0_; clear n0_; (try clear hb); (try clear hb2); (try clear hk); (try clear hi)) | ((with_reducible refine gate_callee (f := 6) rfl ?_); refine goesL_ (some 16) rfl rfl Tryz.func6 (by kernel_rfl) rfl #[.slice A0 l0.length c0, .slice A1 l1.length c1] rfl (by (try simp only [List.map_toArray, List.map_cons, List.map_nil]); first | done | rfl | (simp only [List.length_drop, List.length_take]; rfl)) ?_; (with_reducible refine (cowrieref10_Eval.calls k _ _ l0 _ _ l1 t190 _ ?side1 ?side2 ?side3 ?side4 A8.out).mono ?_); (case side1 => repeat (first | exact (Kd.C_below HR0.out HB.out) | (with_reducible refine Kd.C_alloc ?_ _) | (with_reducible refine Kd.C_drewN ?_ _) | (with_reducible refine Kd.C_drew ?_))); (case side2 => exact HC0.out); (case side3 => repeat (first | exact (Kd.C_below HR1.out HB.out) | (with_reducible refine Kd.C_alloc ?_ _) | (with_reducible refine Kd.C_drewN ?_ _) | (with_reducible refine Kd.C_drew ?_))); (case side4 => exact HC1.out); rintro e w20 ⟨rfl, hb⟩; refine ⟨_, rfl, ?_⟩; have n0_ := Aside0.mk (below_step (by repeat (first | (with_reducible first | exact HB.out | apply below_alloc | apply pw_below_drewN | apply below_drew1) | exact HB.out)) hb); clear HB; have HB := n0_; clear n0_; (try clear hb); (try clear hb2); (try clear hk); (try clear hi)) | (go_at_call 7; (with_reducible refine (test_Unary.calls a2 t191 _ ?sideT A10.out).mono ?_); (case sideT => exact Tab.below HTab_.out (by repeat (first | (with_reducible first | exact HB.out | apply below_alloc | apply pw_below_drewN | apply below_drew1) | exact HB.out))); rintro e w21 ⟨rfl, hb⟩; have n0_ := Aside0.mk (below_step (by repeat (first | (with_reducible first | exact HB.out | apply below_alloc | apply pw_below_drewN | apply below_drew1) | exact HB.out)) hb); clear HB; have HB := n0_; clear n0_; (try clear hb); (try clear hb2); (try clear hk); (try clear hi)) | (go_at_call 8; (with_reducible refine (cowrieref10_Unary.calls k a2 t192 _ A11.out).mono ?_); rintro e w22 ⟨rfl, hb⟩; have n0_ := Aside0.mk (below_step (by repeat (first | (with_reducible first | exact HB.out | apply below_alloc | apply pw_below_drewN | apply below_drew1) | exact HB.out)) hb); clear HB; have HB := n0_; clear n0_; (try clear hb); (try clear hb2); (try clear hk); (try clear hi)) | (go_at_call 9; (with_reducible refine (test_Binary.calls a2 t193 _ ?sideT A17.out).mono ?_); (case sideT => exact Tab.below HTab_.out (by repeat (first | (with_reducible first | exact HB.out | apply below_alloc | apply pw_below_drewN | apply below_drew1) | exact HB.out))); rintro e w23 ⟨rfl, hb⟩; have n0_ := Aside0.mk (below_step (by repeat (first | (with_reducible first | exact HB.out | apply below_alloc | apply pw_below_drewN | apply below_drew1) | exact HB.out)) hb); clear HB; have HB := n0_; clear n0_; (try clear hb); (try clear hb2); (try clear hk); (try clear hi)) | (go_at_call 10; (with_reducible refine (cowrieref10_Binary.calls k a2 t194 _ A18.out).mono ?_); rintro e w24 ⟨rfl, hb⟩; have n0_ := Aside0.mk (below_step (by repeat (first | (with_reducible first | exact HB.out | apply below_alloc | apply pw_below_drewN | apply below_drew1) | exact HB.out)) hb); clear HB; have HB := n0_; clear n0_; (try clear hb); (try clear hb2); (try clear hk); (try clear hi)))
        go_meet
        case rel => exact ⟨_, ((t193 != t194)), (by first | rfl | (simp; done) | (simp [*]; done)), H', ⟨by first | omega | exact Nat.le_refl _⟩, ⟨by repeat (first | (with_reducible first | exact HB.out | apply below_alloc | apply pw_below_drewN | apply below_drew1) | exact HB.out)⟩⟩
    · rw [if_neg c9] at H
      exact absurd (H.trans (congrArg some hrt_)) (cowrielaw10_TestTells.j0_bad _ _ _ _ _)
  case rest =>
    clear HC6
    try clear c1
    try clear p2
    try clear c3
    try clear c5
    try clear c6
    try clear c9
    try clear c9b0
    try clear c9b1
    try clear c12
    try clear c12b0
    try clear c12b1
    try clear c12b2
    obtain ⟨kq, x31_5, rfl, HA, HJ5, HB⟩ := hcut
    cases kq with
    | zero => exact absurd HA.out (by simp [cowrielaw10_TestTells.j0])
    | succ kj5 =>
      have H := HA.out
      clear HA
      simp only [cowrielaw10_TestTells.j0] at H
      by_cases c27 : x31_5 = true
      · subst c27
        have H1 : (some false) = some r := by rw [if_pos rfl] at H; exact H
        exact absurd (H1.trans (congrArg some hrt_)) (by simp)
      · replace c27 := Bool.eq_false_iff.mpr c27
        subst c27
        have H1 : ((test_Single.f a2 a3 l1).bind fun t195 => ((cowrieref10_Single.f kj5 a2 a3 l1).bind fun t196 => (if t195 = t196 then ((test_Both.f kj5 a3 a2 a4).bind fun t197 => ((cowrieref10_Both.f kj5 a3 a2 a4).bind fun t198 => (if t197 = t198 then ((cowrielaw10_alive.f).bind fun t199 => (some t199)) else (some false)))) else (some false)))) = some r := by rw [if_neg (show ¬ (false = true) by decide)] at H; exact H
        clear H
        have H := H1
        clear H1
        replace H := Option.bind_eq_some_iff.mp H
        obtain ⟨t195, A280, H⟩ := H
        replace H : ((cowrieref10_Single.f kj5 a2 a3 l1).bind fun t196 => (if t195 = t196 then ((test_Both.f kj5 a3 a2 a4).bind fun t197 => ((cowrieref10_Both.f kj5 a3 a2 a4).bind fun t198 => (if t197 = t198 then ((cowrielaw10_alive.f).bind fun t199 => (some t199)) else (some false)))) else (some false))) = some r := H
        have A28 := Aside0.mk A280
        clear A280
        replace H := Option.bind_eq_some_iff.mp H
        obtain ⟨t196, A290, H⟩ := H
        replace H : (if t195 = t196 then ((test_Both.f kj5 a3 a2 a4).bind fun t197 => ((cowrieref10_Both.f kj5 a3 a2 a4).bind fun t198 => (if t197 = t198 then ((cowrielaw10_alive.f).bind fun t199 => (some t199)) else (some false)))) else (some false)) = some r := H
        have A29 := Aside0.mk A290
        clear A290
        by_cases c30 : t195 = t196
        · rw [if_pos c30] at H
          have c30b0 : (t195 == t196) = true := beq_iff_eq.mpr c30
          have c30b1 : (t195 != t196) = false := bne_eq_false_iff_eq.mpr c30
          clear c30
          replace H := Option.bind_eq_some_iff.mp H
          obtain ⟨t197, A310, H⟩ := H
          replace H : ((cowrieref10_Both.f kj5 a3 a2 a4).bind fun t198 => (if t197 = t198 then ((cowrielaw10_alive.f).bind fun t199 => (some t199)) else (some false))) = some r := H
          have A31 := Aside0.mk A310
          clear A310
          replace H := Option.bind_eq_some_iff.mp H
          obtain ⟨t198, A320, H⟩ := H
          replace H : (if t197 = t198 then ((cowrielaw10_alive.f).bind fun t199 => (some t199)) else (some false)) = some r := H
          have A32 := Aside0.mk A320
          clear A320
          by_cases c33 : t197 = t198
          · rw [if_pos c33] at H
            have c33b0 : (t197 == t198) = true := beq_iff_eq.mpr c33
            have c33b1 : (t197 != t198) = false := bne_eq_false_iff_eq.mpr c33
            clear c33
            replace H := Option.bind_eq_some_iff.mp H
            obtain ⟨t199, A340, H⟩ := H
            replace H : (some t199) = some r := H
            have A34 := Aside0.mk A340
            clear A340
            obtain rfl := Option.some.inj H
            go_wp2_with (first | ((with_reducible refine gate_callee (f := 11) rfl ?_); refine goesL_ (some 35) rfl rfl Tryz.func11 (by kernel_rfl) rfl #[.string a2, .string a3, .slice A1 l1.length c1] rfl (by (try simp only [List.map_toArray, List.map_cons, List.map_nil]); first | done | rfl | (simp only [List.length_drop, List.length_take]; rfl)) ?_; (with_reducible refine (test_Single.calls a2 a3 _ _ l1 t195 _ ?side1 ?side2 A28.out).mono ?_); (case side1 => repeat (first | exact (Kd.C_below HR1.out HB.out) | (with_reducible refine Kd.C_alloc ?_ _) | (with_reducible refine Kd.C_drewN ?_ _) | (with_reducible refine Kd.C_drew ?_))); (case side2 => exact HC1.out); rintro e w35 ⟨rfl, hb⟩; refine ⟨_, rfl, ?_⟩; have n0_ := Aside0.mk (below_step (by repeat (first | (with_reducible first | exact HB.out | apply below_alloc | apply pw_below_drewN | apply below_drew1) | exact HB.out)) hb); clear HB; have HB := n0_; clear n0_; (try clear hb); (try clear hb2); (try clear hk); (try clear hi)) | ((with_reducible refine gate_callee (f := 12) rfl ?_); refine goesL_ (some 39) rfl rfl Tryz.func12 (by kernel_rfl) rfl #[.string a2, .string a3, .slice A1 l1.length c1] rfl (by (try simp only [List.map_toArray, List.map_cons, List.map_nil]); first | done | rfl | (simp only [List.length_drop, List.length_take]; rfl)) ?_; (with_reducible refine (cowrieref10_Single.calls kj5 a2 a3 _ _ l1 t196 _ ?side1 ?side2 A29.out).mono ?_); (case side1 => repeat (first | exact (Kd.C_below HR1.out HB.out) | (with_reducible refine Kd.C_alloc ?_ _) | (with_reducible refine Kd.C_drewN ?_ _) | (with_reducible refine Kd.C_drew ?_))); (case side2 => exact HC1.out); rintro e w36 ⟨rfl, hb⟩; refine ⟨_, rfl, ?_⟩; have n0_ := Aside0.mk (below_step (by repeat (first | (with_reducible first | exact HB.out | apply below_alloc | apply pw_below_drewN | apply below_drew1) | exact HB.out)) hb); clear HB; have HB := n0_; clear n0_; (try clear hb); (try clear hb2); (try clear hk); (try clear hi)) | (go_at_call 13; (with_reducible refine (test_Both.calls kj5 a3 a2 a4 t197 _ ?sideT A31.out).mono ?_); (case sideT => exact Tab.below HTab_.out (by repeat (first | (with_reducible first | exact HB.out | apply below_alloc | apply pw_below_drewN | apply below_drew1) | exact HB.out))); rintro e w37 ⟨rfl, hb⟩; have n0_ := Aside0.mk (below_step (by repeat (first | (with_reducible first | exact HB.out | apply below_alloc | apply pw_below_drewN | apply below_drew1) | exact HB.out)) hb); clear HB; have HB := n0_; clear n0_; (try clear hb); (try clear hb2); (try clear hk); (try clear hi)) | (go_at_call 14; (with_reducible refine (cowrieref10_Both.calls kj5 a3 a2 a4 t198 _ A32.out).mono ?_); rintro e w38 ⟨rfl, hb⟩; have n0_ := Aside0.mk (below_step (by repeat (first | (with_reducible first | exact HB.out | apply below_alloc | apply pw_below_drewN | apply below_drew1) | exact HB.out)) hb); clear HB; have HB := n0_; clear n0_; (try clear hb); (try clear hb2); (try clear hk); (try clear hi)) | (go_at_call 15; (with_reducible refine (cowrielaw10_alive.calls  t199 _ ?sideT A34.out).mono ?_); (case sideT => exact Tab.below HTab_.out (by repeat (first | (with_reducible first | exact HB.out | apply below_alloc | apply pw_below_drewN | apply below_drew1) | exact HB.out))); rintro e w39 ⟨rfl, hb⟩; have n0_ := Aside0.mk (below_step (by repeat (first | (with_reducible first | exact HB.out | apply below_alloc | apply pw_below_drewN | apply below_drew1) | exact HB.out)) hb); clear HB; have HB := n0_; clear n0_; (try clear hb); (try clear hb2); (try clear hk); (try clear hi)))
            go_ret
            exact ⟨by first | rfl | (simp [errW_none, errW_some] <;> rfl) | (simp [*, errW_none, errW_some] <;> rfl), by repeat (first | (with_reducible first | exact HB.out | apply below_alloc | apply pw_below_drewN | apply below_drew1) | exact HB.out)⟩
          · rw [if_neg c33] at H
            exact absurd (H.trans (congrArg some hrt_)) (by simp)
        · rw [if_neg c30] at H
          exact absurd (H.trans (congrArg some hrt_)) (by simp)
end Go.Proofs.YtdfddiehiiaepaaGreatDoor.S

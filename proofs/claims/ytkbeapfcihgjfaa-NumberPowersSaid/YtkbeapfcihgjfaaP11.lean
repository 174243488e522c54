-- Written by a program of this session (xprint.py) out of the translation.
import Derived.Test.YtkbeapfcihgjfaaP0
import Derived.Test.YtkbeapfcihgjfaaP6
import Derived.Test.YtkbeapfcihgjfaaP8
import Derived.Test.YtkbeapfcihgjfaaP10
namespace Go.Proofs.Ytkbeapfcihgjfaa.P
open Go.RowKit Go.Proofs.YtkbeapfcihgjfaaW.PrintWords Go.Proofs.YtkbeapfcihgjfaaW.PrintLast Go.Proofs.Ytkbeapfcihgjfaa.Ext Go.Proofs.YtkbeapfcihgjfaaW.PrintMore
attribute [local go_sem] max2_int min2_int max_two min_two max_three min_three max_four min_four   -- for this text's walks alone
set_option linter.unusedVariables false
set_option linter.unusedSimpArgs false

/-! ### cowrielaw04_NumberPowers: function 4 -/
def cowrielaw04_NumberPowers.f (k : Nat) (a0 : Int) (a1 : Int) : Option (Bool) := (cowrielaw04_alive.f).bind fun t118 => (if t118 = true then ((number_Power.f k a0 (Int.tmod (wrap64 ((Int.tmod a1 100) + 100)) 100)).bind fun bt119 => ((number_Power.f k a0 (wrap64 ((Int.tmod (wrap64 ((Int.tmod a1 100) + 100)) 100) + 1))).bind fun bt121 => ((number_Power.f k a0 (wrap64 ((-1) - (Int.tmod (wrap64 ((Int.tmod a1 100) + 100)) 100)))).bind fun bt123 => ((cowrielaw04_num.f bt119.2).bind fun t125 => ((cowrielaw04_num.f bt121.2).bind fun t126 => (if (wrap64 (t125 + t126)) = 0 then (if bt121.1 = (wrap64 (bt119.1 * a0)) then ((cowrielaw04_num.f bt123.2).bind fun t127 => (if t127 = 4 then (some (bt123.1 == 0)) else (some false))) else (some false)) else (some false))))))) else (some false))
theorem cowrielaw04_NumberPowers.mono : ∀ a0 a1 k, LeO (cowrielaw04_NumberPowers.f k a0 a1) (cowrielaw04_NumberPowers.f (k + 1) a0 a1) := by
  intro a0 a1 k
  unfold cowrielaw04_NumberPowers.f
  repeat' first
      | (with_reducible exact number_Power.mono _ _ _)
      | (with_reducible exact LeO.refl _)
      | (with_reducible exact LeO.none _)
      | (with_reducible refine LeO.ite ?_ ?_)
      | (with_reducible refine LeO.bind ?_ (fun _ => ?_))
      | exact number_Power.mono _ _ _
      | exact LeO.none _
      | refine LeO.ite ?_ ?_
      | refine LeO.bind ?_ (fun _ => ?_)
set_option maxHeartbeats 8000000 in
set_option maxRecDepth 100000 in
theorem cowrielaw04_NumberPowers.calls (k : Nat) (a0 : Int) (a1 : Int) (r : Bool) (w : World) (h : cowrielaw04_NumberPowers.f k a0 a1 = some r) :
    Calls Try.prog 4 #[.int .i64 a0, .int .i64 a1] w fun e w' => e = .returned (.bool r) ∧ Below w.heap.size w w' := by
  have HB := Aside0.mk (Below.refl w.heap.size w)
  have H : ((cowrielaw04_alive.f).bind fun t118 => (if t118 = true then ((number_Power.f k a0 (Int.tmod (wrap64 ((Int.tmod a1 100) + 100)) 100)).bind fun bt119 => ((number_Power.f k a0 (wrap64 ((Int.tmod (wrap64 ((Int.tmod a1 100) + 100)) 100) + 1))).bind fun bt121 => ((number_Power.f k a0 (wrap64 ((-1) - (Int.tmod (wrap64 ((Int.tmod a1 100) + 100)) 100)))).bind fun bt123 => ((cowrielaw04_num.f bt119.2).bind fun t125 => ((cowrielaw04_num.f bt121.2).bind fun t126 => (if (wrap64 (t125 + t126)) = 0 then (if bt121.1 = (wrap64 (bt119.1 * a0)) then ((cowrielaw04_num.f bt123.2).bind fun t127 => (if t127 = 4 then (some (bt123.1 == 0)) else (some false))) else (some false)) else (some false))))))) else (some false))) = some r := h
  clear h
  replace H := Option.bind_eq_some_iff.mp H
  obtain ⟨t118, A30, H⟩ := H
  replace H : (if t118 = true then ((number_Power.f k a0 (Int.tmod (wrap64 ((Int.tmod a1 100) + 100)) 100)).bind fun bt119 => ((number_Power.f k a0 (wrap64 ((Int.tmod (wrap64 ((Int.tmod a1 100) + 100)) 100) + 1))).bind fun bt121 => ((number_Power.f k a0 (wrap64 ((-1) - (Int.tmod (wrap64 ((Int.tmod a1 100) + 100)) 100)))).bind fun bt123 => ((cowrielaw04_num.f bt119.2).bind fun t125 => ((cowrielaw04_num.f bt121.2).bind fun t126 => (if (wrap64 (t125 + t126)) = 0 then (if bt121.1 = (wrap64 (bt119.1 * a0)) then ((cowrielaw04_num.f bt123.2).bind fun t127 => (if t127 = 4 then (some (bt123.1 == 0)) else (some false))) else (some false)) else (some false))))))) else (some false)) = some r := H
  have A3 := Aside0.mk A30
  clear A30
  by_cases c4 : t118 = true
  · subst c4
    have H1 : ((number_Power.f k a0 (Int.tmod (wrap64 ((Int.tmod a1 100) + 100)) 100)).bind fun bt119 => ((number_Power.f k a0 (wrap64 ((Int.tmod (wrap64 ((Int.tmod a1 100) + 100)) 100) + 1))).bind fun bt121 => ((number_Power.f k a0 (wrap64 ((-1) - (Int.tmod (wrap64 ((Int.tmod a1 100) + 100)) 100)))).bind fun bt123 => ((cowrielaw04_num.f bt119.2).bind fun t125 => ((cowrielaw04_num.f bt121.2).bind fun t126 => (if (wrap64 (t125 + t126)) = 0 then (if bt121.1 = (wrap64 (bt119.1 * a0)) then ((cowrielaw04_num.f bt123.2).bind fun t127 => (if t127 = 4 then (some (bt123.1 == 0)) else (some false))) else (some false)) else (some false))))))) = some r := by rw [if_pos rfl] at H; exact H
    clear H
    have H := H1
    clear H1
    replace H := Option.bind_eq_some_iff.mp H
    obtain ⟨⟨t119, t120⟩, A50, H⟩ := H
    replace H : ((number_Power.f k a0 (wrap64 ((Int.tmod (wrap64 ((Int.tmod a1 100) + 100)) 100) + 1))).bind fun bt121 => ((number_Power.f k a0 (wrap64 ((-1) - (Int.tmod (wrap64 ((Int.tmod a1 100) + 100)) 100)))).bind fun bt123 => ((cowrielaw04_num.f t120).bind fun t125 => ((cowrielaw04_num.f bt121.2).bind fun t126 => (if (wrap64 (t125 + t126)) = 0 then (if bt121.1 = (wrap64 (t119 * a0)) then ((cowrielaw04_num.f bt123.2).bind fun t127 => (if t127 = 4 then (some (bt123.1 == 0)) else (some false))) else (some false)) else (some false)))))) = some r := H
    have A5 := Aside0.mk A50
    clear A50
    replace H := Option.bind_eq_some_iff.mp H
    obtain ⟨⟨t121, t122⟩, A60, H⟩ := H
    replace H : ((number_Power.f k a0 (wrap64 ((-1) - (Int.tmod (wrap64 ((Int.tmod a1 100) + 100)) 100)))).bind fun bt123 => ((cowrielaw04_num.f t120).bind fun t125 => ((cowrielaw04_num.f t122).bind fun t126 => (if (wrap64 (t125 + t126)) = 0 then (if t121 = (wrap64 (t119 * a0)) then ((cowrielaw04_num.f bt123.2).bind fun t127 => (if t127 = 4 then (some (bt123.1 == 0)) else (some false))) else (some false)) else (some false))))) = some r := H
    have A6 := Aside0.mk A60
    clear A60
    replace H := Option.bind_eq_some_iff.mp H
    obtain ⟨⟨t123, t124⟩, A70, H⟩ := H
    replace H : ((cowrielaw04_num.f t120).bind fun t125 => ((cowrielaw04_num.f t122).bind fun t126 => (if (wrap64 (t125 + t126)) = 0 then (if t121 = (wrap64 (t119 * a0)) then ((cowrielaw04_num.f t124).bind fun t127 => (if t127 = 4 then (some (t123 == 0)) else (some false))) else (some false)) else (some false)))) = some r := H
    have A7 := Aside0.mk A70
    clear A70
    replace H := Option.bind_eq_some_iff.mp H
    obtain ⟨t125, A80, H⟩ := H
    replace H : ((cowrielaw04_num.f t122).bind fun t126 => (if (wrap64 (t125 + t126)) = 0 then (if t121 = (wrap64 (t119 * a0)) then ((cowrielaw04_num.f t124).bind fun t127 => (if t127 = 4 then (some (t123 == 0)) else (some false))) else (some false)) else (some false))) = some r := H
    have A8 := Aside0.mk A80
    clear A80
    replace H := Option.bind_eq_some_iff.mp H
    obtain ⟨t126, A90, H⟩ := H
    replace H : (if (wrap64 (t125 + t126)) = 0 then (if t121 = (wrap64 (t119 * a0)) then ((cowrielaw04_num.f t124).bind fun t127 => (if t127 = 4 then (some (t123 == 0)) else (some false))) else (some false)) else (some false)) = some r := H
    have A9 := Aside0.mk A90
    clear A90
    by_cases c10 : (wrap64 (t125 + t126)) = 0
    · rw [if_pos c10] at H
      have c10b0 : ((wrap64 (t125 + t126)) == 0) = true := beq_iff_eq.mpr c10
      have c10b1 : ((wrap64 (t125 + t126)) != 0) = false := bne_eq_false_iff_eq.mpr c10
      clear c10
      by_cases c11 : t121 = (wrap64 (t119 * a0))
      · rw [if_pos c11] at H
        have c11b0 : (t121 == (wrap64 (t119 * a0))) = true := beq_iff_eq.mpr c11
        have c11b1 : (t121 != (wrap64 (t119 * a0))) = false := bne_eq_false_iff_eq.mpr c11
        clear c11
        replace H := Option.bind_eq_some_iff.mp H
        obtain ⟨t127, A120, H⟩ := H
        replace H : (if t127 = 4 then (some (t123 == 0)) else (some false)) = some r := H
        have A12 := Aside0.mk A120
        clear A120
        by_cases c13 : t127 = 4
        · rw [if_pos c13] at H
          have c13b0 : (t127 == 4) = true := beq_iff_eq.mpr c13
          have c13b1 : (t127 != 4) = false := bne_eq_false_iff_eq.mpr c13
          clear c13
          obtain rfl := Option.some.inj H
          go_enter Try.func4, Try.ntmps4
          go_wp2_with (first | ((with_reducible refine gate_callee (f := 5) rfl ?_); refine goesL_ (some 11) rfl rfl Try.func5 (by kernel_rfl) rfl #[] rfl (by (try simp only [List.map_toArray, List.map_cons, List.map_nil]); first | done | rfl | (simp only [List.length_drop, List.length_take]; rfl)) ?_; (with_reducible refine (cowrielaw04_alive.calls  true _ A3.out).mono ?_); rintro e w14 ⟨rfl, hb⟩; refine ⟨_, rfl, ?_⟩; have n0_ := Aside0.mk (below_step (by repeat (first | (with_reducible first | exact HB.out | apply below_alloc | apply pw_below_drewN | apply below_drew1) | exact HB.out)) hb); clear HB; have HB := n0_; clear n0_; (try clear hb); (try clear hb2); (try clear hk); (try clear hi)) | ((with_reducible refine gate_callee (f := 8) rfl ?_); refine goesL_ (some 20) rfl rfl Try.func8 (by kernel_rfl) rfl #[.int .i64 a0, .int .i64 (Int.tmod (wrap64 ((Int.tmod a1 100) + 100)) 100)] rfl (by (try simp only [List.map_toArray, List.map_cons, List.map_nil]); first | done | rfl | (simp only [List.length_drop, List.length_take]; rfl)) ?_; (with_reducible refine (number_Power.calls k a0 (Int.tmod (wrap64 ((Int.tmod a1 100) + 100)) 100) t119 t120 _ A5.out).mono ?_); rintro e w' ⟨rfl, ⟨nd, rfl⟩⟩; refine ⟨_, rfl, ?_⟩) | ((with_reducible refine gate_callee (f := 8) rfl ?_); refine goesL_ (some 27) rfl rfl Try.func8 (by kernel_rfl) rfl #[.int .i64 a0, .int .i64 (wrap64 ((Int.tmod (wrap64 ((Int.tmod a1 100) + 100)) 100) + 1))] rfl (by (try simp only [List.map_toArray, List.map_cons, List.map_nil]); first | done | rfl | (simp only [List.length_drop, List.length_take]; rfl)) ?_; (with_reducible refine (number_Power.calls k a0 (wrap64 ((Int.tmod (wrap64 ((Int.tmod a1 100) + 100)) 100) + 1)) t121 t122 _ A6.out).mono ?_); rintro e w' ⟨rfl, ⟨nd, rfl⟩⟩; refine ⟨_, rfl, ?_⟩) | ((with_reducible refine gate_callee (f := 8) rfl ?_); refine goesL_ (some 34) rfl rfl Try.func8 (by kernel_rfl) rfl #[.int .i64 a0, .int .i64 (wrap64 ((-1) - (Int.tmod (wrap64 ((Int.tmod a1 100) + 100)) 100)))] rfl (by (try simp only [List.map_toArray, List.map_cons, List.map_nil]); first | done | rfl | (simp only [List.length_drop, List.length_take]; rfl)) ?_; (with_reducible refine (number_Power.calls k a0 (wrap64 ((-1) - (Int.tmod (wrap64 ((Int.tmod a1 100) + 100)) 100))) t123 t124 _ A7.out).mono ?_); rintro e w' ⟨rfl, ⟨nd, rfl⟩⟩; refine ⟨_, rfl, ?_⟩) | ((with_reducible refine gate_callee (f := 7) rfl ?_); refine goesL_ (some 38) rfl rfl Try.func7 (by kernel_rfl) rfl #[.int .i64 t120] rfl (by (try simp only [List.map_toArray, List.map_cons, List.map_nil]); first | done | rfl | (simp only [List.length_drop, List.length_take]; rfl)) ?_; (with_reducible refine (cowrielaw04_num.calls t120 t125 _ A8.out).mono ?_); rintro e w' ⟨rfl, ⟨nd, rfl⟩⟩; refine ⟨_, rfl, ?_⟩) | ((with_reducible refine gate_callee (f := 7) rfl ?_); refine goesL_ (some 40) rfl rfl Try.func7 (by kernel_rfl) rfl #[.int .i64 t122] rfl (by (try simp only [List.map_toArray, List.map_cons, List.map_nil]); first | done | rfl | (simp only [List.length_drop, List.length_take]; rfl)) ?_; (with_reducible refine (cowrielaw04_num.calls t122 t126 _ A9.out).mono ?_); rintro e w' ⟨rfl, ⟨nd, rfl⟩⟩; refine ⟨_, rfl, ?_⟩) | (go_at_call 7; (with_reducible refine (cowrielaw04_num.calls t124 t127 _ A12.out).mono ?_); rintro e w' ⟨rfl, ⟨nd, rfl⟩⟩))
          go_ret
          exact ⟨by first | rfl | (simp [errW_none, errW_some] <;> rfl) | (simp [*, errW_none, errW_some] <;> rfl), by repeat (first | (with_reducible first | exact HB.out | apply below_alloc | apply pw_below_drewN | apply below_drew1) | exact HB.out)⟩
        · rw [if_neg c13] at H
          have c13b0 : (t127 == 4) = false := beq_eq_false_iff_ne.mpr c13
          have c13b1 : (t127 != 4) = true := bne_iff_ne.mpr c13
          obtain rfl := Option.some.inj H
          go_enter Try.func4, Try.ntmps4
          go_wp2_with (first | ((with_reducible refine gate_callee (f := 5) rfl ?_); refine goesL_ (some 11) rfl rfl Try.func5 (by kernel_rfl) rfl #[] rfl (by (try simp only [List.map_toArray, List.map_cons, List.map_nil]); first | done | rfl | (simp only [List.length_drop, List.length_take]; rfl)) ?_; (with_reducible refine (cowrielaw04_alive.calls  true _ A3.out).mono ?_); rintro e w15 ⟨rfl, hb⟩; refine ⟨_, rfl, ?_⟩; have n0_ := Aside0.mk (below_step (by repeat (first | (with_reducible first | exact HB.out | apply below_alloc | apply pw_below_drewN | apply below_drew1) | exact HB.out)) hb); clear HB; have HB := n0_; clear n0_; (try clear hb); (try clear hb2); (try clear hk); (try clear hi)) | ((with_reducible refine gate_callee (f := 8) rfl ?_); refine goesL_ (some 20) rfl rfl Try.func8 (by kernel_rfl) rfl #[.int .i64 a0, .int .i64 (Int.tmod (wrap64 ((Int.tmod a1 100) + 100)) 100)] rfl (by (try simp only [List.map_toArray, List.map_cons, List.map_nil]); first | done | rfl | (simp only [List.length_drop, List.length_take]; rfl)) ?_; (with_reducible refine (number_Power.calls k a0 (Int.tmod (wrap64 ((Int.tmod a1 100) + 100)) 100) t119 t120 _ A5.out).mono ?_); rintro e w' ⟨rfl, ⟨nd, rfl⟩⟩; refine ⟨_, rfl, ?_⟩) | ((with_reducible refine gate_callee (f := 8) rfl ?_); refine goesL_ (some 27) rfl rfl Try.func8 (by kernel_rfl) rfl #[.int .i64 a0, .int .i64 (wrap64 ((Int.tmod (wrap64 ((Int.tmod a1 100) + 100)) 100) + 1))] rfl (by (try simp only [List.map_toArray, List.map_cons, List.map_nil]); first | done | rfl | (simp only [List.length_drop, List.length_take]; rfl)) ?_; (with_reducible refine (number_Power.calls k a0 (wrap64 ((Int.tmod (wrap64 ((Int.tmod a1 100) + 100)) 100) + 1)) t121 t122 _ A6.out).mono ?_); rintro e w' ⟨rfl, ⟨nd, rfl⟩⟩; refine ⟨_, rfl, ?_⟩) | ((with_reducible refine gate_callee (f := 8) rfl ?_); refine goesL_ (some 34) rfl rfl Try.func8 (by kernel_rfl) rfl #[.int .i64 a0, .int .i64 (wrap64 ((-1) - (Int.tmod (wrap64 ((Int.tmod a1 100) + 100)) 100)))] rfl (by (try simp only [List.map_toArray, List.map_cons, List.map_nil]); first | done | rfl | (simp only [List.length_drop, List.length_take]; rfl)) ?_; (with_reducible refine (number_Power.calls k a0 (wrap64 ((-1) - (Int.tmod (wrap64 ((Int.tmod a1 100) + 100)) 100))) t123 t124 _ A7.out).mono ?_); rintro e w' ⟨rfl, ⟨nd, rfl⟩⟩; refine ⟨_, rfl, ?_⟩) | ((with_reducible refine gate_callee (f := 7) rfl ?_); refine goesL_ (some 38) rfl rfl Try.func7 (by kernel_rfl) rfl #[.int .i64 t120] rfl (by (try simp only [List.map_toArray, List.map_cons, List.map_nil]); first | done | rfl | (simp only [List.length_drop, List.length_take]; rfl)) ?_; (with_reducible refine (cowrielaw04_num.calls t120 t125 _ A8.out).mono ?_); rintro e w' ⟨rfl, ⟨nd, rfl⟩⟩; refine ⟨_, rfl, ?_⟩) | ((with_reducible refine gate_callee (f := 7) rfl ?_); refine goesL_ (some 40) rfl rfl Try.func7 (by kernel_rfl) rfl #[.int .i64 t122] rfl (by (try simp only [List.map_toArray, List.map_cons, List.map_nil]); first | done | rfl | (simp only [List.length_drop, List.length_take]; rfl)) ?_; (with_reducible refine (cowrielaw04_num.calls t122 t126 _ A9.out).mono ?_); rintro e w' ⟨rfl, ⟨nd, rfl⟩⟩; refine ⟨_, rfl, ?_⟩) | (go_at_call 7; (with_reducible refine (cowrielaw04_num.calls t124 t127 _ A12.out).mono ?_); rintro e w' ⟨rfl, ⟨nd, rfl⟩⟩))
          go_ret
          exact ⟨by first | rfl | (simp [errW_none, errW_some] <;> rfl) | (simp [*, errW_none, errW_some] <;> rfl), by repeat (first | (with_reducible first | exact HB.out | apply below_alloc | apply pw_below_drewN | apply below_drew1) | exact HB.out)⟩
      · rw [if_neg c11] at H
        have c11b0 : (t121 == (wrap64 (t119 * a0))) = false := beq_eq_false_iff_ne.mpr c11
        have c11b1 : (t121 != (wrap64 (t119 * a0))) = true := bne_iff_ne.mpr c11
        obtain rfl := Option.some.inj H
        go_enter Try.func4, Try.ntmps4
        go_wp2_with (first | ((with_reducible refine gate_callee (f := 5) rfl ?_); refine goesL_ (some 11) rfl rfl Try.func5 (by kernel_rfl) rfl #[] rfl (by (try simp only [List.map_toArray, List.map_cons, List.map_nil]); first | done | rfl | (simp only [List.length_drop, List.length_take]; rfl)) ?_; (with_reducible refine (cowrielaw04_alive.calls  true _ A3.out).mono ?_); rintro e w16 ⟨rfl, hb⟩; refine ⟨_, rfl, ?_⟩; have n0_ := Aside0.mk (below_step (by repeat (first | (with_reducible first | exact HB.out | apply below_alloc | apply pw_below_drewN | apply below_drew1) | exact HB.out)) hb); clear HB; have HB := n0_; clear n0_; (try clear hb); (try clear hb2); (try clear hk); (try clear hi)) | ((with_reducible refine gate_callee (f := 8) rfl ?_); refine goesL_ (some 20) rfl rfl Try.func8 (by kernel_rfl) rfl #[.int .i64 a0, .int .i64 (Int.tmod (wrap64 ((Int.tmod a1 100) + 100)) 100)] rfl (by (try simp only [List.map_toArray, List.map_cons, List.map_nil]); first | done | rfl | (simp only [List.length_drop, List.length_take]; rfl)) ?_; (with_reducible refine (number_Power.calls k a0 (Int.tmod (wrap64 ((Int.tmod a1 100) + 100)) 100) t119 t120 _ A5.out).mono ?_); rintro e w' ⟨rfl, ⟨nd, rfl⟩⟩; refine ⟨_, rfl, ?_⟩) | ((with_reducible refine gate_callee (f := 8) rfl ?_); refine goesL_ (some 27) rfl rfl Try.func8 (by kernel_rfl) rfl #[.int .i64 a0, .int .i64 (wrap64 ((Int.tmod (wrap64 ((Int.tmod a1 100) + 100)) 100) + 1))] rfl (by (try simp only [List.map_toArray, List.map_cons, List.map_nil]); first | done | rfl | (simp only [List.length_drop, List.length_take]; rfl)) ?_; (with_reducible refine (number_Power.calls k a0 (wrap64 ((Int.tmod (wrap64 ((Int.tmod a1 100) + 100)) 100) + 1)) t121 t122 _ A6.out).mono ?_); rintro e w' ⟨rfl, ⟨nd, rfl⟩⟩; refine ⟨_, rfl, ?_⟩) | ((with_reducible refine gate_callee (f := 8) rfl ?_); refine goesL_ (some 34) rfl rfl Try.func8 (by kernel_rfl) rfl #[.int .i64 a0, .int .i64 (wrap64 ((-1) - (Int.tmod (wrap64 ((Int.tmod a1 100) + 100)) 100)))] rfl (by (try simp only [List.map_toArray, List.map_cons, List.map_nil]); first | done | rfl | (simp only [List.length_drop, List.length_take]; rfl)) ?_; (with_reducible refine (number_Power.calls k a0 (wrap64 ((-1) - (Int.tmod (wrap64 ((Int.tmod a1 100) + 100)) 100))) t123 t124 _ A7.out).mono ?_); rintro e w' ⟨rfl, ⟨nd, rfl⟩⟩; refine ⟨_, rfl, ?_⟩) | ((with_reducible refine gate_callee (f := 7) rfl ?_); refine goesL_ (some 38) rfl rfl Try.func7 (by kernel_rfl) rfl #[.int .i64 t120] rfl (by (try simp only [List.map_toArray, List.map_cons, List.map_nil]); first | done | rfl | (simp only [List.length_drop, List.length_take]; rfl)) ?_; (with_reducible refine (cowrielaw04_num.calls t120 t125 _ A8.out).mono ?_); rintro e w' ⟨rfl, ⟨nd, rfl⟩⟩; refine ⟨_, rfl, ?_⟩) | ((with_reducible refine gate_callee (f := 7) rfl ?_); refine goesL_ (some 40) rfl rfl Try.func7 (by kernel_rfl) rfl #[.int .i64 t122] rfl (by (try simp only [List.map_toArray, List.map_cons, List.map_nil]); first | done | rfl | (simp only [List.length_drop, List.length_take]; rfl)) ?_; (with_reducible refine (cowrielaw04_num.calls t122 t126 _ A9.out).mono ?_); rintro e w' ⟨rfl, ⟨nd, rfl⟩⟩; refine ⟨_, rfl, ?_⟩))
        go_ret
        exact ⟨by first | rfl | (simp [errW_none, errW_some] <;> rfl) | (simp [*, errW_none, errW_some] <;> rfl), by repeat (first | (with_reducible first | exact HB.out | apply below_alloc | apply pw_below_drewN | apply below_drew1) | exact HB.out)⟩
    · rw [if_neg c10] at H
      have c10b0 : ((wrap64 (t125 + t126)) == 0) = false := beq_eq_false_iff_ne.mpr c10
      have c10b1 : ((wrap64 (t125 + t126)) != 0) = true := bne_iff_ne.mpr c10
      obtain rfl := Option.some.inj H
      go_enter Try.func4, Try.ntmps4
      go_wp2_with (first | ((with_reducible refine gate_callee (f := 5) rfl ?_); refine goesL_ (some 11) rfl rfl Try.func5 (by kernel_rfl) rfl #[] rfl (by (try simp only [List.map_toArray, List.map_cons, List.map_nil]); first | done | rfl | (simp only [List.length_drop, List.length_take]; rfl)) ?_; (with_reducible refine (cowrielaw04_alive.calls  true _ A3.out).mono ?_); rintro e w17 ⟨rfl, hb⟩; refine ⟨_, rfl, ?_⟩; have n0_ := Aside0.mk (below_step (by repeat (first | (with_reducible first | exact HB.out | apply below_alloc | apply pw_below_drewN | apply below_drew1) | exact HB.out)) hb); clear HB; have HB := n0_; clear n0_; (try clear hb); (try clear hb2); (try clear hk); (try clear hi)) | ((with_reducible refine gate_callee (f := 8) rfl ?_); refine goesL_ (some 20) rfl rfl Try.func8 (by kernel_rfl) rfl #[.int .i64 a0, .int .i64 (Int.tmod (wrap64 ((Int.tmod a1 100) + 100)) 100)] rfl (by (try simp only [List.map_toArray, List.map_cons, List.map_nil]); first | done | rfl | (simp only [List.length_drop, List.length_take]; rfl)) ?_; (with_reducible refine (number_Power.calls k a0 (Int.tmod (wrap64 ((Int.tmod a1 100) + 100)) 100) t119 t120 _ A5.out).mono ?_); rintro e w' ⟨rfl, ⟨nd, rfl⟩⟩; refine ⟨_, rfl, ?_⟩) | ((with_reducible refine gate_callee (f := 8) rfl ?_); refine goesL_ (some 27) rfl rfl Try.func8 (by kernel_rfl) rfl #[.int .i64 a0, .int .i64 (wrap64 ((Int.tmod (wrap64 ((Int.tmod a1 100) + 100)) 100) + 1))] rfl (by (try simp only [List.map_toArray, List.map_cons, List.map_nil]); first | done | rfl | (simp only [List.length_drop, List.length_take]; rfl)) ?_; (with_reducible refine (number_Power.calls k a0 (wrap64 ((Int.tmod (wrap64 ((Int.tmod a1 100) + 100)) 100) + 1)) t121 t122 _ A6.out).mono ?_); rintro e w' ⟨rfl, ⟨nd, rfl⟩⟩; refine ⟨_, rfl, ?_⟩) | ((with_reducible refine gate_callee (f := 8) rfl ?_); refine goesL_ (some 34) rfl rfl Try.func8 (by kernel_rfl) rfl #[.int .i64 a0, .int .i64 (wrap64 ((-1) - (Int.tmod (wrap64 ((Int.tmod a1 100) + 100)) 100)))] rfl (by (try simp only [List.map_toArray, List.map_cons, List.map_nil]); first | done | rfl | (simp only [List.length_drop, List.length_take]; rfl)) ?_; (with_reducible refine (number_Power.calls k a0 (wrap64 ((-1) - (Int.tmod (wrap64 ((Int.tmod a1 100) + 100)) 100))) t123 t124 _ A7.out).mono ?_); rintro e w' ⟨rfl, ⟨nd, rfl⟩⟩; refine ⟨_, rfl, ?_⟩) | ((with_reducible refine gate_callee (f := 7) rfl ?_); refine goesL_ (some 38) rfl rfl Try.func7 (by kernel_rfl) rfl #[.int .i64 t120] rfl (by (try simp only [List.map_toArray, List.map_cons, List.map_nil]); first | done | rfl | (simp only [List.length_drop, List.length_take]; rfl)) ?_; (with_reducible refine (cowrielaw04_num.calls t120 t125 _ A8.out).mono ?_); rintro e w' ⟨rfl, ⟨nd, rfl⟩⟩; refine ⟨_, rfl, ?_⟩) | ((with_reducible refine gate_callee (f := 7) rfl ?_); refine goesL_ (some 40) rfl rfl Try.func7 (by kernel_rfl) rfl #[.int .i64 t122] rfl (by (try simp only [List.map_toArray, List.map_cons, List.map_nil]); first | done | rfl | (simp only [List.length_drop, List.length_take]; rfl)) ?_; (with_reducible refine (cowrielaw04_num.calls t122 t126 _ A9.out).mono ?_); rintro e w' ⟨rfl, ⟨nd, rfl⟩⟩; refine ⟨_, rfl, ?_⟩))
      go_ret
      exact ⟨by first | rfl | (simp [errW_none, errW_some] <;> rfl) | (simp [*, errW_none, errW_some] <;> rfl), by repeat (first | (with_reducible first | exact HB.out | apply below_alloc | apply pw_below_drewN | apply below_drew1) | exact HB.out)⟩
  · replace c4 := Bool.eq_false_iff.mpr c4
    subst c4
    have H1 : (some false) = some r := by rw [if_neg (show ¬ (false = true) by decide)] at H; exact H
    clear H
    have H := H1
    clear H1
    obtain rfl := Option.some.inj H
    go_enter Try.func4, Try.ntmps4
    go_wp2_with (first | ((with_reducible refine gate_callee (f := 5) rfl ?_); refine goesL_ (some 11) rfl rfl Try.func5 (by kernel_rfl) rfl #[] rfl (by (try simp only [List.map_toArray, List.map_cons, List.map_nil]); first | done | rfl | (simp only [List.length_drop, List.length_take]; rfl)) ?_; (with_reducible refine (cowrielaw04_alive.calls  false _ A3.out).mono ?_); rintro e w18 ⟨rfl, hb⟩; refine ⟨_, rfl, ?_⟩; have n0_ := Aside0.mk (below_step (by repeat (first | (with_reducible first | exact HB.out | apply below_alloc | apply pw_below_drewN | apply below_drew1) | exact HB.out)) hb); clear HB; have HB := n0_; clear n0_; (try clear hb); (try clear hb2); (try clear hk); (try clear hi)))
    go_ret
    exact ⟨by first | rfl | (simp [errW_none, errW_some] <;> rfl) | (simp [*, errW_none, errW_some] <;> rfl), by repeat (first | (with_reducible first | exact HB.out | apply below_alloc | apply pw_below_drewN | apply below_drew1) | exact HB.out)⟩

/-- THE ONE PURE STATEMENT of cowrielaw04_NumberPowers: yours. -/
def cowrielaw04_NumberPowers.Pure : Prop := ∀ (a0 : Int) (a1 : Int), (Lit.int .i64 a0).wf = true → (Lit.int .i64 a1).wf = true → ∃ k, cowrielaw04_NumberPowers.f k a0 a1 = some true
theorem cowrielaw04_NumberPowers.walk (P : cowrielaw04_NumberPowers.Pure) (a0 : Int) (a1 : Int) (w : World) (w0 : (Lit.int .i64 a0).wf = true) (w1 : (Lit.int .i64 a1).wf = true) :
    Calls Try.prog 4 #[.int .i64 a0, .int .i64 a1] w fun e w' => e = .returned (.bool true) ∧ Below w.heap.size w w' := by
  obtain ⟨k, h⟩ := P a0 a1 w0 w1
  refine (cowrielaw04_NumberPowers.calls k a0 a1 true w h).mono ?_
  rintro e w' ⟨rfl, hd⟩
  exact ⟨rfl, hd⟩

end Go.Proofs.Ytkbeapfcihgjfaa.P

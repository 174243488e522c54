-- Written by a program of this session (xprint.py) out of the translation.
import Derived.Test.YtbckpnioimhgcaaDoorP0
import Derived.Test.YtbckpnioimhgcaaDoorP34
import Derived.Test.YtbckpnioimhgcaaDoorP35
import Derived.Test.YtbckpnioimhgcaaDoorP49
import Derived.Test.YtbckpnioimhgcaaDoorStr
import Derived.Test.YtbckpnioimhgcaaDoorTrans
import Derived.Test.YtbckpnioimhgcaaDoorCountW
import Derived.Test.YtbckpnioimhgcaaDoorEvery
namespace Go.Proofs.YtbckpnioimhgcaaDoor.P
open Go.RowKit Go.Proofs.YtbckpnioimhgcaaDoorW.PrintWords Go.Proofs.YtbckpnioimhgcaaDoorW.PrintLast Go.Proofs.YtbckpnioimhgcaaDoor.Ext Go.Proofs.YtbckpnioimhgcaaDoorW.PrintMore
attribute [local go_sem] max2_int min2_int max_two min_two max_three min_three max_four min_four   -- for this text's walks alone
set_option linter.unusedVariables false
set_option linter.unusedSimpArgs false

/-! ### cowrielaw11_TextsEnds: function 6 -/
def cowrielaw11_TextsEnds.j0 : Nat → ByteArray → Int → Int → Bool → Option (Bool)
  | 0, _, _, _, _ => none
  | k + 1, x0, x1, x5, x25 => if x25 = true then (if (wrap64 ((wrap64 (x5 + 1)) + 1)) = 0 then (none) else ((texts_Head.f x0 (Int.tmod (wrap64 ((wrap64 ((Int.tmod x1 (wrap64 ((wrap64 (x5 + 1)) + 1))) + (wrap64 (x5 + 1)))) + 1)) (wrap64 ((wrap64 (x5 + 1)) + 1)))).bind fun t165 => ((texts_Tail.f x0 (wrap64 ((wrap64 (x5 + 1)) - (Int.tmod (wrap64 ((wrap64 ((Int.tmod x1 (wrap64 ((wrap64 (x5 + 1)) + 1))) + (wrap64 (x5 + 1)))) + 1)) (wrap64 ((wrap64 (x5 + 1)) + 1)))))).bind fun t166 => (if t165.size + t166.size ≤ 9223372036854775807 then (some ((t165 ++ t166).toList == x0.toList)) else (none))))) else (if (wrap64 (x5 + 1)) = 0 then (none) else ((texts_Head.f x0 (Int.tmod (wrap64 ((wrap64 ((Int.tmod x1 (wrap64 (x5 + 1))) + x5)) + 1)) (wrap64 (x5 + 1)))).bind fun t167 => ((texts_Tail.f x0 (wrap64 (x5 - (Int.tmod (wrap64 ((wrap64 ((Int.tmod x1 (wrap64 (x5 + 1))) + x5)) + 1)) (wrap64 (x5 + 1)))))).bind fun t168 => (if t167.size + t168.size ≤ 9223372036854775807 then (some ((t167 ++ t168).toList == x0.toList)) else (none)))))
def cowrielaw11_TextsEnds.f (k : Nat) (a0 : ByteArray) (a1 : Int) : Option (Bool) := (cowrielaw11_alive.f).bind fun t161 => (if t161 = true then ((texts_Count.f a0).bind fun bt162 => (if a0.toList = ([] : List UInt8) then (cowrielaw11_TextsEnds.j0 k a0 a1 bt162.1 false) else (if 0 ≤ (wrap64 ((a0.size : Int) - 1)) then (if (wrap64 ((a0.size : Int) - 1)) < (a0.size : Int) then (cowrielaw11_TextsEnds.j0 k a0 a1 bt162.1 ((bt a0 (wrap64 ((a0.size : Int) - 1))) != 10)) else (none)) else (none)))) else (some false))
theorem cowrielaw11_TextsEnds.mono_l : ∀ k, (∀ y0 y1 y2 y3, LeO (cowrielaw11_TextsEnds.j0 k y0 y1 y2 y3) (cowrielaw11_TextsEnds.j0 (k + 1) y0 y1 y2 y3))
  | 0 => fun _ _ _ _ r h => by simp [cowrielaw11_TextsEnds.j0] at h
  | k + 1 => by
    have ih0 := cowrielaw11_TextsEnds.mono_l k
    · intro y0 y1 y2 y3
      unfold cowrielaw11_TextsEnds.j0
      repeat' first
      | (with_reducible exact ih0 _ _ _ _)
      | (with_reducible exact LeO.refl _)
      | (with_reducible exact LeO.none _)
      | (with_reducible refine LeO.ite ?_ ?_)
      | (with_reducible refine LeO.bind ?_ (fun _ => ?_))
      | exact ih0 _ _ _ _
      | exact LeO.none _
      | refine LeO.ite ?_ ?_
      | refine LeO.bind ?_ (fun _ => ?_)
theorem cowrielaw11_TextsEnds.mono : ∀ a0 a1 k, LeO (cowrielaw11_TextsEnds.f k a0 a1) (cowrielaw11_TextsEnds.f (k + 1) a0 a1) := by
  intro a0 a1 k
  have ih0 := cowrielaw11_TextsEnds.mono_l k
  unfold cowrielaw11_TextsEnds.f
  repeat' first
      | (with_reducible exact ih0 _ _ _ _)
      | (with_reducible exact LeO.refl _)
      | (with_reducible exact LeO.none _)
      | (with_reducible refine LeO.ite ?_ ?_)
      | (with_reducible refine LeO.bind ?_ (fun _ => ?_))
      | exact ih0 _ _ _ _
      | exact LeO.none _
      | refine LeO.ite ?_ ?_
      | refine LeO.bind ?_ (fun _ => ?_)
set_option maxHeartbeats 8000000 in
set_option maxRecDepth 100000 in
theorem cowrielaw11_TextsEnds.calls (k : Nat) (a0 : ByteArray) (a1 : Int) (r : Bool) (w : World) (h : cowrielaw11_TextsEnds.f k a0 a1 = some r) :
    Calls Tryd.prog 6 #[.string a0, .int .i64 a1] w fun e w' => e = .returned (.bool r) ∧ Below w.heap.size w w' := by
  have HB := Aside0.mk (Below.refl w.heap.size w)
  have H : ((cowrielaw11_alive.f).bind fun t161 => (if t161 = true then ((texts_Count.f a0).bind fun bt162 => (if a0.toList = ([] : List UInt8) then (cowrielaw11_TextsEnds.j0 k a0 a1 bt162.1 false) else (if 0 ≤ (wrap64 ((a0.size : Int) - 1)) then (if (wrap64 ((a0.size : Int) - 1)) < (a0.size : Int) then (cowrielaw11_TextsEnds.j0 k a0 a1 bt162.1 ((bt a0 (wrap64 ((a0.size : Int) - 1))) != 10)) else (none)) else (none)))) else (some false))) = some r := h
  clear h
  replace H := Option.bind_eq_some_iff.mp H
  obtain ⟨t161, A30, H⟩ := H
  replace H : (if t161 = true then ((texts_Count.f a0).bind fun bt162 => (if a0.toList = ([] : List UInt8) then (cowrielaw11_TextsEnds.j0 k a0 a1 bt162.1 false) else (if 0 ≤ (wrap64 ((a0.size : Int) - 1)) then (if (wrap64 ((a0.size : Int) - 1)) < (a0.size : Int) then (cowrielaw11_TextsEnds.j0 k a0 a1 bt162.1 ((bt a0 (wrap64 ((a0.size : Int) - 1))) != 10)) else (none)) else (none)))) else (some false)) = some r := H
  have A3 := Aside0.mk A30
  clear A30
  by_cases c4 : t161 = true
  · subst c4
    have H1 : ((texts_Count.f a0).bind fun bt162 => (if a0.toList = ([] : List UInt8) then (cowrielaw11_TextsEnds.j0 k a0 a1 bt162.1 false) else (if 0 ≤ (wrap64 ((a0.size : Int) - 1)) then (if (wrap64 ((a0.size : Int) - 1)) < (a0.size : Int) then (cowrielaw11_TextsEnds.j0 k a0 a1 bt162.1 ((bt a0 (wrap64 ((a0.size : Int) - 1))) != 10)) else (none)) else (none)))) = some r := by rw [if_pos rfl] at H; exact H
    clear H
    have H := H1
    clear H1
    replace H := Option.bind_eq_some_iff.mp H
    obtain ⟨⟨t162, t163, t164⟩, A50, H⟩ := H
    replace H : (if a0.toList = ([] : List UInt8) then (cowrielaw11_TextsEnds.j0 k a0 a1 t162 false) else (if 0 ≤ (wrap64 ((a0.size : Int) - 1)) then (if (wrap64 ((a0.size : Int) - 1)) < (a0.size : Int) then (cowrielaw11_TextsEnds.j0 k a0 a1 t162 ((bt a0 (wrap64 ((a0.size : Int) - 1))) != 10)) else (none)) else (none))) = some r := H
    have A5 := Aside0.mk A50
    clear A50
    have HC6 := Aside0.mk H
    clear H
    go_enter Tryd.func6, Tryd.ntmps6
    go_upto_region 4 with (first | ((with_reducible refine gate_callee (f := 8) rfl ?_); refine goesL_ (some 8) rfl rfl Tryd.func8 (by kernel_rfl) rfl #[] rfl (by (try simp only [List.map_toArray, List.map_cons, List.map_nil]); first | done | rfl | (simp only [List.length_drop, List.length_take]; rfl)) ?_; (with_reducible refine (cowrielaw11_alive.calls  true _ A3.out).mono ?_); rintro e w7 ⟨rfl, hb⟩; refine ⟨_, rfl, ?_⟩; have n0_ := Aside0.mk (below_step (by repeat (first | (with_reducible first | exact HB.out | apply below_alloc | apply pw_below_drewN | apply below_drew1) | exact HB.out)) hb); clear HB; have HB := n0_; clear n0_; (try clear hb); (try clear hb2); (try clear hk); (try clear hi)) | ((with_reducible refine gate_callee (f := 12) rfl ?_); refine goesL_ (some 12) rfl rfl Tryd.func12 (by kernel_rfl) rfl #[.string a0] rfl (by (try simp only [List.map_toArray, List.map_cons, List.map_nil]); first | done | rfl | (simp only [List.length_drop, List.length_take]; rfl)) ?_; (with_reducible refine (texts_Count.calls a0 t162 t163 t164 _ A5.out).mono ?_); rintro e w8 ⟨rfl, hb⟩; refine ⟨_, rfl, ?_⟩; have n0_ := Aside0.mk (below_step (by repeat (first | (with_reducible first | exact HB.out | apply below_alloc | apply pw_below_drewN | apply below_drew1) | exact HB.out)) hb); clear HB; have HB := n0_; clear n0_; (try clear hb); (try clear hb2); (try clear hk); (try clear hi)))
    (try simp only [Act.put, List.setIfInBounds_toArray, List.set_cons_zero, List.set_cons_succ])
    go_cut [25] (fun v25 wc => ∃ (kq : Nat) (x25_5 : Bool), v25 = .bool x25_5 ∧ Aside0 (cowrielaw11_TextsEnds.j0 kq a0 a1 t162 x25_5 = some r) ∧ Aside0 (kq ≤ k) ∧ Aside0 (Below w.heap.size w wc))
    case first =>
      have H := HC6.out
      clear HC6
      by_cases c9 : a0.toList = ([] : List UInt8)
      · rw [if_pos c9] at H
        have c9b0 : (a0.toList == ([] : List UInt8)) = true := beq_iff_eq.mpr c9
        have c9b1 : (a0.toList != ([] : List UInt8)) = false := bne_eq_false_iff_eq.mpr c9
        clear c9
        (first | rw [c9b0] | (simp only [i64_w, i32_w]; rw [c9b0]) | skip)
        have H' := Aside0.mk H
        clear H
        go_wp2
        go_meet
        case rel => exact ⟨_, (false), (by first | rfl | (simp; done) | (simp [*]; done)), H', ⟨by first | omega | exact Nat.le_refl _⟩, ⟨by repeat (first | (with_reducible first | exact HB.out | apply below_alloc | apply pw_below_drewN | apply below_drew1) | exact HB.out)⟩⟩
      · rw [if_neg c9] at H
        have c9b0 : (a0.toList == ([] : List UInt8)) = false := beq_eq_false_iff_ne.mpr c9
        have c9b1 : (a0.toList != ([] : List UInt8)) = true := bne_iff_ne.mpr c9
        (first | rw [c9b0] | (simp only [i64_w, i32_w]; rw [c9b0]) | skip)
        obtain ⟨ji10, hji10⟩ : ∃ j_ : Int, (wrap64 ((a0.size : Int) - 1)) = j_ := ⟨_, rfl⟩
        replace H : (if 0 ≤ (ji10) then (if (ji10) < (a0.size : Int) then (cowrielaw11_TextsEnds.j0 k a0 a1 t162 ((bt a0 (ji10)) != 10)) else (none)) else (none)) = some r := by first | (rw [hji10] at H; exact H) | (simp only [hji10] at H ⊢; exact H)
        have hji10w : (IntKind.i64.wrap ((a0.size : Int) - 1)) = ji10 := (i64_w _).trans hji10
        by_cases c11 : 0 ≤ (ji10)
        · rw [if_pos c11] at H
          have c11b0 : decide (0 ≤ (ji10)) = true := decide_eq_true c11
          clear c11
          by_cases c12 : (ji10) < (a0.size : Int)
          · rw [if_pos c12] at H
            have c12b0 : decide ((ji10) < (a0.size : Int)) = true := decide_eq_true c12
            clear c12
            have H' := Aside0.mk H
            clear H
            have p13 : 0 ≤ ((ji10) : Int) := of_decide_eq_true (by first | (with_reducible assumption) | assumption)
            have q13 : (ji10) < (a0.size : Int) := of_decide_eq_true (by first | (with_reducible assumption) | assumption)
            have hx13 := bt_at a0 (ji10)
            replace p13 := eq_true p13
            replace q13 := eq_true q13
            go_wp2
            go_meet
            case rel => exact ⟨_, (((bt a0 (ji10)) != 10)), (by first | rfl | (simp; done) | (simp only [← hji10] <;> (first | rfl | simp)) | (simp [*]; done)), H', ⟨by first | omega | exact Nat.le_refl _⟩, ⟨by repeat (first | (with_reducible first | exact HB.out | apply below_alloc | apply pw_below_drewN | apply below_drew1) | exact HB.out)⟩⟩
          · rw [if_neg c12] at H
            exact absurd H (by simp)
        · rw [if_neg c11] at H
          exact absurd H (by simp)
    case rest =>
      clear HC6
      try clear c1
      try clear p1
      try clear q1
      try clear hx1
      try clear p2
      try clear c4
      try clear c6
      try clear p6
      try clear c8
      try clear c9
      try clear c9b0
      try clear c9b1
      try clear c11
      try clear c11b0
      try clear c12
      try clear c12b0
      try clear p13
      try clear q13
      try clear hx13
      try clear p13
      try clear q13
      obtain ⟨kq, x25_5, rfl, HA, HJ5, HB⟩ := hcut
      cases kq with
      | zero => exact absurd HA.out (by simp [cowrielaw11_TextsEnds.j0])
      | succ kj5 =>
        have H := HA.out
        clear HA
        simp only [cowrielaw11_TextsEnds.j0] at H
        by_cases c14 : x25_5 = true
        · subst c14
          have H1 : (if (wrap64 ((wrap64 (t162 + 1)) + 1)) = 0 then (none) else ((texts_Head.f a0 (Int.tmod (wrap64 ((wrap64 ((Int.tmod a1 (wrap64 ((wrap64 (t162 + 1)) + 1))) + (wrap64 (t162 + 1)))) + 1)) (wrap64 ((wrap64 (t162 + 1)) + 1)))).bind fun t165 => ((texts_Tail.f a0 (wrap64 ((wrap64 (t162 + 1)) - (Int.tmod (wrap64 ((wrap64 ((Int.tmod a1 (wrap64 ((wrap64 (t162 + 1)) + 1))) + (wrap64 (t162 + 1)))) + 1)) (wrap64 ((wrap64 (t162 + 1)) + 1)))))).bind fun t166 => (if t165.size + t166.size ≤ 9223372036854775807 then (some ((t165 ++ t166).toList == a0.toList)) else (none))))) = some r := by rw [if_pos rfl] at H; exact H
          clear H
          have H := H1
          clear H1
          by_cases c15 : (wrap64 ((wrap64 (t162 + 1)) + 1)) = 0
          · rw [if_pos c15] at H
            exact absurd H (by simp)
          · rw [if_neg c15] at H
            have c15b0 : ((wrap64 ((wrap64 (t162 + 1)) + 1)) == 0) = false := beq_eq_false_iff_ne.mpr c15
            have c15b1 : ((wrap64 ((wrap64 (t162 + 1)) + 1)) != 0) = true := bne_iff_ne.mpr c15
            replace H := Option.bind_eq_some_iff.mp H
            obtain ⟨t165, A160, H⟩ := H
            replace H : ((texts_Tail.f a0 (wrap64 ((wrap64 (t162 + 1)) - (Int.tmod (wrap64 ((wrap64 ((Int.tmod a1 (wrap64 ((wrap64 (t162 + 1)) + 1))) + (wrap64 (t162 + 1)))) + 1)) (wrap64 ((wrap64 (t162 + 1)) + 1)))))).bind fun t166 => (if t165.size + t166.size ≤ 9223372036854775807 then (some ((t165 ++ t166).toList == a0.toList)) else (none))) = some r := H
            have A16 := Aside0.mk A160
            clear A160
            replace H := Option.bind_eq_some_iff.mp H
            obtain ⟨t166, A170, H⟩ := H
            replace H : (if t165.size + t166.size ≤ 9223372036854775807 then (some ((t165 ++ t166).toList == a0.toList)) else (none)) = some r := H
            have A17 := Aside0.mk A170
            clear A170
            by_cases c18 : t165.size + t166.size ≤ 9223372036854775807
            · rw [if_pos c18] at H
              have c18b0 := eq_true c18
              have c18b1 : decide (t165.size + t166.size ≤ 9223372036854775807) = true := decide_eq_true c18
              try have c18b2 : (9223372036854775807 < t165.size + t166.size) = False := eq_false (Nat.not_lt.2 c18)
              obtain rfl := Option.some.inj H
              go_wp2_with (first | ((with_reducible refine gate_callee (f := 14) rfl ?_); refine goesL_ (some 40) rfl rfl Tryd.func14 (by kernel_rfl) rfl #[.string a0, .int .i64 (Int.tmod (wrap64 ((wrap64 ((Int.tmod a1 (wrap64 ((wrap64 (t162 + 1)) + 1))) + (wrap64 (t162 + 1)))) + 1)) (wrap64 ((wrap64 (t162 + 1)) + 1)))] rfl (by (try simp only [List.map_toArray, List.map_cons, List.map_nil]); first | done | rfl | (simp only [List.length_drop, List.length_take]; rfl)) ?_; (with_reducible refine (texts_Head.calls a0 (Int.tmod (wrap64 ((wrap64 ((Int.tmod a1 (wrap64 ((wrap64 (t162 + 1)) + 1))) + (wrap64 (t162 + 1)))) + 1)) (wrap64 ((wrap64 (t162 + 1)) + 1))) t165 _ A16.out).mono ?_); rintro e w19 ⟨rfl, hb⟩; refine ⟨_, rfl, ?_⟩; have n0_ := Aside0.mk (below_step (by repeat (first | (with_reducible first | exact HB.out | apply below_alloc | apply pw_below_drewN | apply below_drew1) | exact HB.out)) hb); clear HB; have HB := n0_; clear n0_; (try clear hb); (try clear hb2); (try clear hk); (try clear hi)) | ((with_reducible refine gate_callee (f := 15) rfl ?_); refine goesL_ (some 45) rfl rfl Tryd.func15 (by kernel_rfl) rfl #[.string a0, .int .i64 (wrap64 ((wrap64 (t162 + 1)) - (Int.tmod (wrap64 ((wrap64 ((Int.tmod a1 (wrap64 ((wrap64 (t162 + 1)) + 1))) + (wrap64 (t162 + 1)))) + 1)) (wrap64 ((wrap64 (t162 + 1)) + 1)))))] rfl (by (try simp only [List.map_toArray, List.map_cons, List.map_nil]); first | done | rfl | (simp only [List.length_drop, List.length_take]; rfl)) ?_; (with_reducible refine (texts_Tail.calls a0 (wrap64 ((wrap64 (t162 + 1)) - (Int.tmod (wrap64 ((wrap64 ((Int.tmod a1 (wrap64 ((wrap64 (t162 + 1)) + 1))) + (wrap64 (t162 + 1)))) + 1)) (wrap64 ((wrap64 (t162 + 1)) + 1))))) t166 _ A17.out).mono ?_); rintro e w20 ⟨rfl, hb⟩; refine ⟨_, rfl, ?_⟩; have n0_ := Aside0.mk (below_step (by repeat (first | (with_reducible first | exact HB.out | apply below_alloc | apply pw_below_drewN | apply below_drew1) | exact HB.out)) hb); clear HB; have HB := n0_; clear n0_; (try clear hb); (try clear hb2); (try clear hk); (try clear hi)))
              go_ret
              exact ⟨by first | rfl | (simp [errW_none, errW_some] <;> rfl) | (simp [*, errW_none, errW_some] <;> rfl), by repeat (first | (with_reducible first | exact HB.out | apply below_alloc | apply pw_below_drewN | apply below_drew1) | exact HB.out)⟩
            · rw [if_neg c18] at H
              exact absurd H (by simp)
        · replace c14 := Bool.eq_false_iff.mpr c14
          subst c14
          have H1 : (if (wrap64 (t162 + 1)) = 0 then (none) else ((texts_Head.f a0 (Int.tmod (wrap64 ((wrap64 ((Int.tmod a1 (wrap64 (t162 + 1))) + t162)) + 1)) (wrap64 (t162 + 1)))).bind fun t167 => ((texts_Tail.f a0 (wrap64 (t162 - (Int.tmod (wrap64 ((wrap64 ((Int.tmod a1 (wrap64 (t162 + 1))) + t162)) + 1)) (wrap64 (t162 + 1)))))).bind fun t168 => (if t167.size + t168.size ≤ 9223372036854775807 then (some ((t167 ++ t168).toList == a0.toList)) else (none))))) = some r := by rw [if_neg (show ¬ (false = true) by decide)] at H; exact H
          clear H
          have H := H1
          clear H1
          by_cases c21 : (wrap64 (t162 + 1)) = 0
          · rw [if_pos c21] at H
            exact absurd H (by simp)
          · rw [if_neg c21] at H
            have c21b0 : ((wrap64 (t162 + 1)) == 0) = false := beq_eq_false_iff_ne.mpr c21
            have c21b1 : ((wrap64 (t162 + 1)) != 0) = true := bne_iff_ne.mpr c21
            replace H := Option.bind_eq_some_iff.mp H
            obtain ⟨t167, A220, H⟩ := H
            replace H : ((texts_Tail.f a0 (wrap64 (t162 - (Int.tmod (wrap64 ((wrap64 ((Int.tmod a1 (wrap64 (t162 + 1))) + t162)) + 1)) (wrap64 (t162 + 1)))))).bind fun t168 => (if t167.size + t168.size ≤ 9223372036854775807 then (some ((t167 ++ t168).toList == a0.toList)) else (none))) = some r := H
            have A22 := Aside0.mk A220
            clear A220
            replace H := Option.bind_eq_some_iff.mp H
            obtain ⟨t168, A230, H⟩ := H
            replace H : (if t167.size + t168.size ≤ 9223372036854775807 then (some ((t167 ++ t168).toList == a0.toList)) else (none)) = some r := H
            have A23 := Aside0.mk A230
            clear A230
            by_cases c24 : t167.size + t168.size ≤ 9223372036854775807
            · rw [if_pos c24] at H
              have c24b0 := eq_true c24
              have c24b1 : decide (t167.size + t168.size ≤ 9223372036854775807) = true := decide_eq_true c24
              try have c24b2 : (9223372036854775807 < t167.size + t168.size) = False := eq_false (Nat.not_lt.2 c24)
              obtain rfl := Option.some.inj H
              go_wp2_with (first | ((with_reducible refine gate_callee (f := 14) rfl ?_); refine goesL_ (some 40) rfl rfl Tryd.func14 (by kernel_rfl) rfl #[.string a0, .int .i64 (Int.tmod (wrap64 ((wrap64 ((Int.tmod a1 (wrap64 (t162 + 1))) + t162)) + 1)) (wrap64 (t162 + 1)))] rfl (by (try simp only [List.map_toArray, List.map_cons, List.map_nil]); first | done | rfl | (simp only [List.length_drop, List.length_take]; rfl)) ?_; (with_reducible refine (texts_Head.calls a0 (Int.tmod (wrap64 ((wrap64 ((Int.tmod a1 (wrap64 (t162 + 1))) + t162)) + 1)) (wrap64 (t162 + 1))) t167 _ A22.out).mono ?_); rintro e w25 ⟨rfl, hb⟩; refine ⟨_, rfl, ?_⟩; have n0_ := Aside0.mk (below_step (by repeat (first | (with_reducible first | exact HB.out | apply below_alloc | apply pw_below_drewN | apply below_drew1) | exact HB.out)) hb); clear HB; have HB := n0_; clear n0_; (try clear hb); (try clear hb2); (try clear hk); (try clear hi)) | ((with_reducible refine gate_callee (f := 15) rfl ?_); refine goesL_ (some 45) rfl rfl Tryd.func15 (by kernel_rfl) rfl #[.string a0, .int .i64 (wrap64 (t162 - (Int.tmod (wrap64 ((wrap64 ((Int.tmod a1 (wrap64 (t162 + 1))) + t162)) + 1)) (wrap64 (t162 + 1)))))] rfl (by (try simp only [List.map_toArray, List.map_cons, List.map_nil]); first | done | rfl | (simp only [List.length_drop, List.length_take]; rfl)) ?_; (with_reducible refine (texts_Tail.calls a0 (wrap64 (t162 - (Int.tmod (wrap64 ((wrap64 ((Int.tmod a1 (wrap64 (t162 + 1))) + t162)) + 1)) (wrap64 (t162 + 1))))) t168 _ A23.out).mono ?_); rintro e w26 ⟨rfl, hb⟩; refine ⟨_, rfl, ?_⟩; have n0_ := Aside0.mk (below_step (by repeat (first | (with_reducible first | exact HB.out | apply below_alloc | apply pw_below_drewN | apply below_drew1) | exact HB.out)) hb); clear HB; have HB := n0_; clear n0_; (try clear hb); (try clear hb2); (try clear hk); (try clear hi)))
              go_ret
              exact ⟨by first | rfl | (simp [errW_none, errW_some] <;> rfl) | (simp [*, errW_none, errW_some] <;> rfl), by repeat (first | (with_reducible first | exact HB.out | apply below_alloc | apply pw_below_drewN | apply below_drew1) | exact HB.out)⟩
            · rw [if_neg c24] at H
              exact absurd H (by simp)
  · replace c4 := Bool.eq_false_iff.mpr c4
    subst c4
    have H1 : (some false) = some r := by rw [if_neg (show ¬ (false = true) by decide)] at H; exact H
    clear H
    have H := H1
    clear H1
    obtain rfl := Option.some.inj H
    go_enter Tryd.func6, Tryd.ntmps6
    go_wp2_with (first | ((with_reducible refine gate_callee (f := 8) rfl ?_); refine goesL_ (some 8) rfl rfl Tryd.func8 (by kernel_rfl) rfl #[] rfl (by (try simp only [List.map_toArray, List.map_cons, List.map_nil]); first | done | rfl | (simp only [List.length_drop, List.length_take]; rfl)) ?_; (with_reducible refine (cowrielaw11_alive.calls  false _ A3.out).mono ?_); rintro e w27 ⟨rfl, hb⟩; refine ⟨_, rfl, ?_⟩; have n0_ := Aside0.mk (below_step (by repeat (first | (with_reducible first | exact HB.out | apply below_alloc | apply pw_below_drewN | apply below_drew1) | exact HB.out)) hb); clear HB; have HB := n0_; clear n0_; (try clear hb); (try clear hb2); (try clear hk); (try clear hi)))
    go_ret
    exact ⟨by first | rfl | (simp [errW_none, errW_some] <;> rfl) | (simp [*, errW_none, errW_some] <;> rfl), by repeat (first | (with_reducible first | exact HB.out | apply below_alloc | apply pw_below_drewN | apply below_drew1) | exact HB.out)⟩

/-- THE ONE PURE STATEMENT of cowrielaw11_TextsEnds: yours. -/
def cowrielaw11_TextsEnds.Pure : Prop := ∀ (a0 : ByteArray) (a1 : Int), a0.size ≤ 140737488351232 → (Lit.int .i64 a1).wf = true → ∃ k, cowrielaw11_TextsEnds.f k a0 a1 = some true
theorem cowrielaw11_TextsEnds.walk (P : cowrielaw11_TextsEnds.Pure) (a0 : ByteArray) (a1 : Int) (w : World) (w0 : a0.size ≤ 140737488351232) (w1 : (Lit.int .i64 a1).wf = true) :
    Calls Tryd.prog 6 #[.string a0, .int .i64 a1] w fun e w' => e = .returned (.bool true) ∧ Below w.heap.size w w' := by
  obtain ⟨k, h⟩ := P a0 a1 w0 w1
  refine (cowrielaw11_TextsEnds.calls k a0 a1 true w h).mono ?_
  rintro e w' ⟨rfl, hd⟩
  exact ⟨rfl, hd⟩

end Go.Proofs.YtbckpnioimhgcaaDoor.P

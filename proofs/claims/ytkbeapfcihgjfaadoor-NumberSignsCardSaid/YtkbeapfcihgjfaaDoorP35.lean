-- Written by a program of this session (xprint.py) out of the translation.
import Derived.Test.YtkbeapfcihgjfaaDoorP0
import Derived.Test.YtkbeapfcihgjfaaDoorP29
import Derived.Test.YtkbeapfcihgjfaaDoorP31
import Derived.Test.YtkbeapfcihgjfaaDoorP33
namespace Go.Proofs.YtkbeapfcihgjfaaDoor.P
open Go.RowKit Go.Proofs.YtkbeapfcihgjfaaDoorW.PrintWords Go.Proofs.YtkbeapfcihgjfaaDoorW.PrintLast Go.Proofs.YtkbeapfcihgjfaaDoor.Ext Go.Proofs.YtkbeapfcihgjfaaDoorW.PrintMore
attribute [local go_sem] max2_int min2_int max_two min_two max_three min_three max_four min_four   -- for this text's walks alone
set_option linter.unusedVariables false
set_option linter.unusedSimpArgs false

/-! ### cowrielaw04_NumberSigns: function 4 -/
mutual
def cowrielaw04_NumberSigns.j0 : Nat → ByteArray → Bool → Option (Bool)
  | 0, _, _ => none
  | k + 1, x0, x45 => if x45 = true then (some false) else ((number_Literal.f x0).bind fun bt133 => (if 1 + x0.size ≤ 9223372036854775807 then ((number_Parse.f ((⟨#[45]⟩ : ByteArray) ++ x0)).bind fun bt135 => ((number_Parse.f ((⟨#[43]⟩ : ByteArray) ++ x0)).bind fun bt137 => ((cowrielaw04_num.f bt133.2).bind fun t139 => (if t139 = 0 then (if 0 < (x0.size : Int) then (cowrielaw04_NumberSigns.j1 k bt133.1 bt135.1 bt135.2 bt137.1 bt137.2 ((bt x0 0) == 48)) else (none)) else (cowrielaw04_NumberSigns.j1 k bt133.1 bt135.1 bt135.2 bt137.1 bt137.2 true))))) else (none)))
def cowrielaw04_NumberSigns.j1 : Nat → Int → Int → Int → Int → Int → Bool → Option (Bool)
  | 0, _, _, _, _, _, _ => none
  | k + 1, x10, x12, x13, x14, x15, x70 => if x70 = true then (some true) else ((cowrielaw04_num.f x13).bind fun t140 => ((cowrielaw04_num.f x15).bind fun t141 => (if (wrap64 (t140 + t141)) = 0 then (if x12 = (wrap64 (-x10)) then (some (x14 == x10)) else (some false)) else (some false))))
end
def cowrielaw04_NumberSigns.f (k : Nat) (a0 : ByteArray) (a1 : Int) : Option (Bool) := (cowrielaw04_alive.f).bind fun t128 => (if t128 = true then (if 0 ≤ (Int.tmod (wrap64 ((Int.tmod a1 9) + 9)) 9) then (if (Int.tmod (wrap64 ((Int.tmod a1 9) + 9)) 9) ≤ 9 then ((number_Parse.f a0).bind fun bt129 => (if ((⟨#[32, 32, 32, 32, 32, 32, 32, 32, 32]⟩ : ByteArray).extract 0 ((Int.tmod (wrap64 ((Int.tmod a1 9) + 9)) 9) : Int).toNat).size + a0.size ≤ 9223372036854775807 then (if (((⟨#[32, 32, 32, 32, 32, 32, 32, 32, 32]⟩ : ByteArray).extract 0 ((Int.tmod (wrap64 ((Int.tmod a1 9) + 9)) 9) : Int).toNat) ++ a0).size + ((⟨#[32, 32, 32, 32, 32, 32, 32, 32, 32]⟩ : ByteArray).extract 0 ((Int.tmod (wrap64 ((Int.tmod a1 9) + 9)) 9) : Int).toNat).size ≤ 9223372036854775807 then ((number_Parse.f ((((⟨#[32, 32, 32, 32, 32, 32, 32, 32, 32]⟩ : ByteArray).extract 0 ((Int.tmod (wrap64 ((Int.tmod a1 9) + 9)) 9) : Int).toNat) ++ a0) ++ ((⟨#[32, 32, 32, 32, 32, 32, 32, 32, 32]⟩ : ByteArray).extract 0 ((Int.tmod (wrap64 ((Int.tmod a1 9) + 9)) 9) : Int).toNat))).bind fun bt131 => (if bt129.1 = bt131.1 then (cowrielaw04_NumberSigns.j0 k a0 (bt129.2 != bt131.2)) else (cowrielaw04_NumberSigns.j0 k a0 true))) else (none)) else (none))) else (none)) else (none)) else (some false))
theorem cowrielaw04_NumberSigns.mono_l : ∀ k, (∀ y0 y1, LeO (cowrielaw04_NumberSigns.j0 k y0 y1) (cowrielaw04_NumberSigns.j0 (k + 1) y0 y1)) ∧ (∀ y0 y1 y2 y3 y4 y5, LeO (cowrielaw04_NumberSigns.j1 k y0 y1 y2 y3 y4 y5) (cowrielaw04_NumberSigns.j1 (k + 1) y0 y1 y2 y3 y4 y5))
  | 0 => ⟨fun _ _ r h => by simp [cowrielaw04_NumberSigns.j0] at h, fun _ _ _ _ _ _ r h => by simp [cowrielaw04_NumberSigns.j1] at h⟩
  | k + 1 => by
    obtain ⟨ih0, ih1⟩ := cowrielaw04_NumberSigns.mono_l k
    refine ⟨?_, ?_⟩
    · intro y0 y1
      unfold cowrielaw04_NumberSigns.j0
      repeat' first
      | (with_reducible exact ih0 _ _)
      | (with_reducible exact ih1 _ _ _ _ _ _)
      | (with_reducible exact LeO.refl _)
      | (with_reducible exact LeO.none _)
      | (with_reducible refine LeO.ite ?_ ?_)
      | (with_reducible refine LeO.bind ?_ (fun _ => ?_))
      | exact ih0 _ _
      | exact ih1 _ _ _ _ _ _
      | exact LeO.none _
      | refine LeO.ite ?_ ?_
      | refine LeO.bind ?_ (fun _ => ?_)
    · intro y0 y1 y2 y3 y4 y5
      unfold cowrielaw04_NumberSigns.j1
      repeat' first
      | (with_reducible exact ih0 _ _)
      | (with_reducible exact ih1 _ _ _ _ _ _)
      | (with_reducible exact LeO.refl _)
      | (with_reducible exact LeO.none _)
      | (with_reducible refine LeO.ite ?_ ?_)
      | (with_reducible refine LeO.bind ?_ (fun _ => ?_))
      | exact ih0 _ _
      | exact ih1 _ _ _ _ _ _
      | exact LeO.none _
      | refine LeO.ite ?_ ?_
      | refine LeO.bind ?_ (fun _ => ?_)
theorem cowrielaw04_NumberSigns.mono : ∀ a0 a1 k, LeO (cowrielaw04_NumberSigns.f k a0 a1) (cowrielaw04_NumberSigns.f (k + 1) a0 a1) := by
  intro a0 a1 k
  obtain ⟨ih0, ih1⟩ := cowrielaw04_NumberSigns.mono_l k
  unfold cowrielaw04_NumberSigns.f
  repeat' first
      | (with_reducible exact ih0 _ _)
      | (with_reducible exact ih1 _ _ _ _ _ _)
      | (with_reducible exact LeO.refl _)
      | (with_reducible exact LeO.none _)
      | (with_reducible refine LeO.ite ?_ ?_)
      | (with_reducible refine LeO.bind ?_ (fun _ => ?_))
      | exact ih0 _ _
      | exact ih1 _ _ _ _ _ _
      | exact LeO.none _
      | refine LeO.ite ?_ ?_
      | refine LeO.bind ?_ (fun _ => ?_)
set_option maxHeartbeats 8000000 in
set_option maxRecDepth 100000 in
theorem cowrielaw04_NumberSigns.calls (k : Nat) (a0 : ByteArray) (a1 : Int) (r : Bool) (w : World) (h : cowrielaw04_NumberSigns.f k a0 a1 = some r) :
    Calls Tryd.prog 4 #[.string a0, .int .i64 a1] w fun e w' => e = .returned (.bool r) ∧ Below w.heap.size w w' := by
  have HB := Aside0.mk (Below.refl w.heap.size w)
  have H : ((cowrielaw04_alive.f).bind fun t128 => (if t128 = true then (if 0 ≤ (Int.tmod (wrap64 ((Int.tmod a1 9) + 9)) 9) then (if (Int.tmod (wrap64 ((Int.tmod a1 9) + 9)) 9) ≤ 9 then ((number_Parse.f a0).bind fun bt129 => (if ((⟨#[32, 32, 32, 32, 32, 32, 32, 32, 32]⟩ : ByteArray).extract 0 ((Int.tmod (wrap64 ((Int.tmod a1 9) + 9)) 9) : Int).toNat).size + a0.size ≤ 9223372036854775807 then (if (((⟨#[32, 32, 32, 32, 32, 32, 32, 32, 32]⟩ : ByteArray).extract 0 ((Int.tmod (wrap64 ((Int.tmod a1 9) + 9)) 9) : Int).toNat) ++ a0).size + ((⟨#[32, 32, 32, 32, 32, 32, 32, 32, 32]⟩ : ByteArray).extract 0 ((Int.tmod (wrap64 ((Int.tmod a1 9) + 9)) 9) : Int).toNat).size ≤ 9223372036854775807 then ((number_Parse.f ((((⟨#[32, 32, 32, 32, 32, 32, 32, 32, 32]⟩ : ByteArray).extract 0 ((Int.tmod (wrap64 ((Int.tmod a1 9) + 9)) 9) : Int).toNat) ++ a0) ++ ((⟨#[32, 32, 32, 32, 32, 32, 32, 32, 32]⟩ : ByteArray).extract 0 ((Int.tmod (wrap64 ((Int.tmod a1 9) + 9)) 9) : Int).toNat))).bind fun bt131 => (if bt129.1 = bt131.1 then (cowrielaw04_NumberSigns.j0 k a0 (bt129.2 != bt131.2)) else (cowrielaw04_NumberSigns.j0 k a0 true))) else (none)) else (none))) else (none)) else (none)) else (some false))) = some r := h
  clear h
  replace H := Option.bind_eq_some_iff.mp H
  obtain ⟨t128, A30, H⟩ := H
  replace H : (if t128 = true then (if 0 ≤ (Int.tmod (wrap64 ((Int.tmod a1 9) + 9)) 9) then (if (Int.tmod (wrap64 ((Int.tmod a1 9) + 9)) 9) ≤ 9 then ((number_Parse.f a0).bind fun bt129 => (if ((⟨#[32, 32, 32, 32, 32, 32, 32, 32, 32]⟩ : ByteArray).extract 0 ((Int.tmod (wrap64 ((Int.tmod a1 9) + 9)) 9) : Int).toNat).size + a0.size ≤ 9223372036854775807 then (if (((⟨#[32, 32, 32, 32, 32, 32, 32, 32, 32]⟩ : ByteArray).extract 0 ((Int.tmod (wrap64 ((Int.tmod a1 9) + 9)) 9) : Int).toNat) ++ a0).size + ((⟨#[32, 32, 32, 32, 32, 32, 32, 32, 32]⟩ : ByteArray).extract 0 ((Int.tmod (wrap64 ((Int.tmod a1 9) + 9)) 9) : Int).toNat).size ≤ 9223372036854775807 then ((number_Parse.f ((((⟨#[32, 32, 32, 32, 32, 32, 32, 32, 32]⟩ : ByteArray).extract 0 ((Int.tmod (wrap64 ((Int.tmod a1 9) + 9)) 9) : Int).toNat) ++ a0) ++ ((⟨#[32, 32, 32, 32, 32, 32, 32, 32, 32]⟩ : ByteArray).extract 0 ((Int.tmod (wrap64 ((Int.tmod a1 9) + 9)) 9) : Int).toNat))).bind fun bt131 => (if bt129.1 = bt131.1 then (cowrielaw04_NumberSigns.j0 k a0 (bt129.2 != bt131.2)) else (cowrielaw04_NumberSigns.j0 k a0 true))) else (none)) else (none))) else (none)) else (none)) else (some false)) = some r := H
  have A3 := Aside0.mk A30
  clear A30
  by_cases c4 : t128 = true
  · subst c4
    have H1 : (if 0 ≤ (Int.tmod (wrap64 ((Int.tmod a1 9) + 9)) 9) then (if (Int.tmod (wrap64 ((Int.tmod a1 9) + 9)) 9) ≤ 9 then ((number_Parse.f a0).bind fun bt129 => (if ((⟨#[32, 32, 32, 32, 32, 32, 32, 32, 32]⟩ : ByteArray).extract 0 ((Int.tmod (wrap64 ((Int.tmod a1 9) + 9)) 9) : Int).toNat).size + a0.size ≤ 9223372036854775807 then (if (((⟨#[32, 32, 32, 32, 32, 32, 32, 32, 32]⟩ : ByteArray).extract 0 ((Int.tmod (wrap64 ((Int.tmod a1 9) + 9)) 9) : Int).toNat) ++ a0).size + ((⟨#[32, 32, 32, 32, 32, 32, 32, 32, 32]⟩ : ByteArray).extract 0 ((Int.tmod (wrap64 ((Int.tmod a1 9) + 9)) 9) : Int).toNat).size ≤ 9223372036854775807 then ((number_Parse.f ((((⟨#[32, 32, 32, 32, 32, 32, 32, 32, 32]⟩ : ByteArray).extract 0 ((Int.tmod (wrap64 ((Int.tmod a1 9) + 9)) 9) : Int).toNat) ++ a0) ++ ((⟨#[32, 32, 32, 32, 32, 32, 32, 32, 32]⟩ : ByteArray).extract 0 ((Int.tmod (wrap64 ((Int.tmod a1 9) + 9)) 9) : Int).toNat))).bind fun bt131 => (if bt129.1 = bt131.1 then (cowrielaw04_NumberSigns.j0 k a0 (bt129.2 != bt131.2)) else (cowrielaw04_NumberSigns.j0 k a0 true))) else (none)) else (none))) else (none)) else (none)) = some r := by rw [if_pos rfl] at H; exact H
    clear H
    have H := H1
    clear H1
    obtain ⟨ji5, hji5⟩ : ∃ j_ : Int, (Int.tmod (wrap64 ((Int.tmod a1 9) + 9)) 9) = j_ := ⟨_, rfl⟩
    replace H : (if 0 ≤ (ji5) then (if (ji5) ≤ 9 then ((number_Parse.f a0).bind fun bt129 => (if ((⟨#[32, 32, 32, 32, 32, 32, 32, 32, 32]⟩ : ByteArray).extract 0 ((ji5) : Int).toNat).size + a0.size ≤ 9223372036854775807 then (if (((⟨#[32, 32, 32, 32, 32, 32, 32, 32, 32]⟩ : ByteArray).extract 0 ((ji5) : Int).toNat) ++ a0).size + ((⟨#[32, 32, 32, 32, 32, 32, 32, 32, 32]⟩ : ByteArray).extract 0 ((ji5) : Int).toNat).size ≤ 9223372036854775807 then ((number_Parse.f ((((⟨#[32, 32, 32, 32, 32, 32, 32, 32, 32]⟩ : ByteArray).extract 0 ((ji5) : Int).toNat) ++ a0) ++ ((⟨#[32, 32, 32, 32, 32, 32, 32, 32, 32]⟩ : ByteArray).extract 0 ((ji5) : Int).toNat))).bind fun bt131 => (if bt129.1 = bt131.1 then (cowrielaw04_NumberSigns.j0 k a0 (bt129.2 != bt131.2)) else (cowrielaw04_NumberSigns.j0 k a0 true))) else (none)) else (none))) else (none)) else (none)) = some r := by first | (rw [hji5] at H; exact H) | (simp only [hji5] at H ⊢; exact H)
    (try rw [hji5] at A3)
    by_cases c6 : 0 ≤ (ji5)
    · rw [if_pos c6] at H
      have c6b0 := eq_true c6
      have c6b1 : decide (0 ≤ (ji5)) = true := decide_eq_true c6
      clear c6
      by_cases c7 : (ji5) ≤ 9
      · rw [if_pos c7] at H
        have c7b0 := eq_true c7
        have c7b1 : decide ((ji5) ≤ 9) = true := decide_eq_true c7
        clear c7
        replace H := Option.bind_eq_some_iff.mp H
        obtain ⟨⟨t129, t130⟩, A80, H⟩ := H
        replace H : (if ((⟨#[32, 32, 32, 32, 32, 32, 32, 32, 32]⟩ : ByteArray).extract 0 ((ji5) : Int).toNat).size + a0.size ≤ 9223372036854775807 then (if (((⟨#[32, 32, 32, 32, 32, 32, 32, 32, 32]⟩ : ByteArray).extract 0 ((ji5) : Int).toNat) ++ a0).size + ((⟨#[32, 32, 32, 32, 32, 32, 32, 32, 32]⟩ : ByteArray).extract 0 ((ji5) : Int).toNat).size ≤ 9223372036854775807 then ((number_Parse.f ((((⟨#[32, 32, 32, 32, 32, 32, 32, 32, 32]⟩ : ByteArray).extract 0 ((ji5) : Int).toNat) ++ a0) ++ ((⟨#[32, 32, 32, 32, 32, 32, 32, 32, 32]⟩ : ByteArray).extract 0 ((ji5) : Int).toNat))).bind fun bt131 => (if t129 = bt131.1 then (cowrielaw04_NumberSigns.j0 k a0 (t130 != bt131.2)) else (cowrielaw04_NumberSigns.j0 k a0 true))) else (none)) else (none)) = some r := H
        have A8 := Aside0.mk A80
        clear A80
        by_cases c9 : ((⟨#[32, 32, 32, 32, 32, 32, 32, 32, 32]⟩ : ByteArray).extract 0 ((ji5) : Int).toNat).size + a0.size ≤ 9223372036854775807
        · rw [if_pos c9] at H
          have c9b0 := eq_true c9
          have c9b1 : decide (((⟨#[32, 32, 32, 32, 32, 32, 32, 32, 32]⟩ : ByteArray).extract 0 ((ji5) : Int).toNat).size + a0.size ≤ 9223372036854775807) = true := decide_eq_true c9
          try have c9b2 : (9223372036854775807 < ((⟨#[32, 32, 32, 32, 32, 32, 32, 32, 32]⟩ : ByteArray).extract 0 ((ji5) : Int).toNat).size + a0.size) = False := eq_false (Nat.not_lt.2 c9)
          by_cases c10 : (((⟨#[32, 32, 32, 32, 32, 32, 32, 32, 32]⟩ : ByteArray).extract 0 ((ji5) : Int).toNat) ++ a0).size + ((⟨#[32, 32, 32, 32, 32, 32, 32, 32, 32]⟩ : ByteArray).extract 0 ((ji5) : Int).toNat).size ≤ 9223372036854775807
          · rw [if_pos c10] at H
            have c10b0 := eq_true c10
            have c10b1 : decide ((((⟨#[32, 32, 32, 32, 32, 32, 32, 32, 32]⟩ : ByteArray).extract 0 ((ji5) : Int).toNat) ++ a0).size + ((⟨#[32, 32, 32, 32, 32, 32, 32, 32, 32]⟩ : ByteArray).extract 0 ((ji5) : Int).toNat).size ≤ 9223372036854775807) = true := decide_eq_true c10
            try have c10b2 : (9223372036854775807 < (((⟨#[32, 32, 32, 32, 32, 32, 32, 32, 32]⟩ : ByteArray).extract 0 ((ji5) : Int).toNat) ++ a0).size + ((⟨#[32, 32, 32, 32, 32, 32, 32, 32, 32]⟩ : ByteArray).extract 0 ((ji5) : Int).toNat).size) = False := eq_false (Nat.not_lt.2 c10)
            replace H := Option.bind_eq_some_iff.mp H
            obtain ⟨⟨t131, t132⟩, A110, H⟩ := H
            replace H : (if t129 = t131 then (cowrielaw04_NumberSigns.j0 k a0 (t130 != t132)) else (cowrielaw04_NumberSigns.j0 k a0 true)) = some r := H
            have A11 := Aside0.mk A110
            clear A110
            have HC12 := Aside0.mk H
            clear H
            go_enter Tryd.func4, Tryd.ntmps4
            go_upto_region 7 with (first | ((with_reducible refine gate_callee (f := 8) rfl ?_); refine goesL_ (some 16) rfl rfl Tryd.func8 (by kernel_rfl) rfl #[] rfl (by (try simp only [List.map_toArray, List.map_cons, List.map_nil]); first | done | rfl | (simp only [List.length_drop, List.length_take]; rfl)) ?_; (with_reducible refine (cowrielaw04_alive.calls  true _ A3.out).mono ?_); rintro e w13 ⟨rfl, hb⟩; refine ⟨_, rfl, ?_⟩; have n0_ := Aside0.mk (below_step (by repeat (first | (with_reducible first | exact HB.out | apply below_alloc | apply pw_below_drewN | apply below_drew1) | exact HB.out)) hb); clear HB; have HB := n0_; clear n0_; (try clear hb); (try clear hb2); (try clear hk); (try clear hi)) | ((with_reducible refine gate_callee (f := 5) rfl ?_); refine goesL_ (some 26) rfl rfl Tryd.func5 (by kernel_rfl) rfl #[.string a0] rfl (by (try simp only [List.map_toArray, List.map_cons, List.map_nil]); first | done | rfl | (simp only [List.length_drop, List.length_take]; rfl)) ?_; (with_reducible refine (number_Parse.calls a0 t129 t130 _ A8.out).mono ?_); rintro e w14 ⟨rfl, hb⟩; refine ⟨_, rfl, ?_⟩; have n0_ := Aside0.mk (below_step (by repeat (first | (with_reducible first | exact HB.out | apply below_alloc | apply pw_below_drewN | apply below_drew1) | exact HB.out)) hb); clear HB; have HB := n0_; clear n0_; (try clear hb); (try clear hb2); (try clear hk); (try clear hi)) | ((with_reducible refine gate_callee (f := 5) rfl ?_); refine goesL_ (some 35) rfl rfl Tryd.func5 (by kernel_rfl) rfl #[.string ((((⟨#[32, 32, 32, 32, 32, 32, 32, 32, 32]⟩ : ByteArray).extract 0 ((ji5) : Int).toNat) ++ a0) ++ ((⟨#[32, 32, 32, 32, 32, 32, 32, 32, 32]⟩ : ByteArray).extract 0 ((ji5) : Int).toNat))] rfl (by (try simp only [List.map_toArray, List.map_cons, List.map_nil]); first | done | (simp only [hji5]; rfl) | rfl | (simp only [List.length_drop, List.length_take]; rfl)) ?_; (with_reducible refine (number_Parse.calls ((((⟨#[32, 32, 32, 32, 32, 32, 32, 32, 32]⟩ : ByteArray).extract 0 ((ji5) : Int).toNat) ++ a0) ++ ((⟨#[32, 32, 32, 32, 32, 32, 32, 32, 32]⟩ : ByteArray).extract 0 ((ji5) : Int).toNat)) t131 t132 _ A11.out).mono ?_); rintro e w15 ⟨rfl, hb⟩; refine ⟨_, rfl, ?_⟩; have n0_ := Aside0.mk (below_step (by repeat (first | (with_reducible first | exact HB.out | apply below_alloc | apply pw_below_drewN | apply below_drew1) | exact HB.out)) hb); clear HB; have HB := n0_; clear n0_; (try clear hb); (try clear hb2); (try clear hk); (try clear hi)))
            (try simp only [Act.put, List.setIfInBounds_toArray, List.set_cons_zero, List.set_cons_succ])
            go_cut [45] (fun v45 wc => ∃ (kq : Nat) (x45_11 : Bool), v45 = .bool x45_11 ∧ Aside0 (cowrielaw04_NumberSigns.j0 kq a0 x45_11 = some r) ∧ Aside0 (kq ≤ k) ∧ Aside0 (Below w.heap.size w wc))
            case first =>
              have H := HC12.out
              clear HC12
              by_cases c16 : t129 = t131
              · rw [if_pos c16] at H
                have c16b0 : (t129 == t131) = true := beq_iff_eq.mpr c16
                have c16b1 : (t129 != t131) = false := bne_eq_false_iff_eq.mpr c16
                clear c16
                (first | rw [c16b0] | (simp only [i64_w, i32_w]; rw [c16b0]) | skip)
                have H' := Aside0.mk H
                clear H
                go_wp2
                go_meet
                case rel => exact ⟨_, ((t130 != t132)), (by first | rfl | (simp; done) | (simp [*]; done)), H', ⟨by first | omega | exact Nat.le_refl _⟩, ⟨by repeat (first | (with_reducible first | exact HB.out | apply below_alloc | apply pw_below_drewN | apply below_drew1) | exact HB.out)⟩⟩
              · rw [if_neg c16] at H
                have c16b0 : (t129 == t131) = false := beq_eq_false_iff_ne.mpr c16
                have c16b1 : (t129 != t131) = true := bne_iff_ne.mpr c16
                (first | rw [c16b0] | (simp only [i64_w, i32_w]; rw [c16b0]) | skip)
                have H' := Aside0.mk H
                clear H
                go_wp2
                go_meet
                case rel => exact ⟨_, (true), (by first | rfl | (simp; done) | (simp [*]; done)), H', ⟨by first | omega | exact Nat.le_refl _⟩, ⟨by repeat (first | (with_reducible first | exact HB.out | apply below_alloc | apply pw_below_drewN | apply below_drew1) | exact HB.out)⟩⟩
            case rest =>
              clear HC12
              try clear c1
              try clear p2
              try clear c4
              try clear c5
              try clear c6
              try clear c6b0
              try clear c6b1
              try clear p6
              try clear c7
              try clear c7b0
              try clear c7b1
              try clear c8
              try clear c9
              try clear c9b0
              try clear c9b1
              try clear c9b2
              try clear c10
              try clear c10b0
              try clear c10b1
              try clear c10b2
              try clear c16
              try clear c16b0
              try clear c16b1
              obtain ⟨kq, x45_11, rfl, HA, HJ11, HB⟩ := hcut
              cases kq with
              | zero => exact absurd HA.out (by simp [cowrielaw04_NumberSigns.j0])
              | succ kj11 =>
                have H := HA.out
                clear HA
                simp only [cowrielaw04_NumberSigns.j0] at H
                by_cases c17 : x45_11 = true
                · subst c17
                  have H1 : (some false) = some r := by rw [if_pos rfl] at H; exact H
                  clear H
                  have H := H1
                  clear H1
                  obtain rfl := Option.some.inj H
                  go_wp2
                  go_ret
                  exact ⟨by first | rfl | (simp [errW_none, errW_some] <;> rfl) | (simp only [← hji5]; first | rfl | (simp [errW_none, errW_some] <;> rfl)) | (simp [*, errW_none, errW_some] <;> rfl), by repeat (first | (with_reducible first | exact HB.out | apply below_alloc | apply pw_below_drewN | apply below_drew1) | exact HB.out)⟩
                · replace c17 := Bool.eq_false_iff.mpr c17
                  subst c17
                  have H1 : ((number_Literal.f a0).bind fun bt133 => (if 1 + a0.size ≤ 9223372036854775807 then ((number_Parse.f ((⟨#[45]⟩ : ByteArray) ++ a0)).bind fun bt135 => ((number_Parse.f ((⟨#[43]⟩ : ByteArray) ++ a0)).bind fun bt137 => ((cowrielaw04_num.f bt133.2).bind fun t139 => (if t139 = 0 then (if 0 < (a0.size : Int) then (cowrielaw04_NumberSigns.j1 kj11 bt133.1 bt135.1 bt135.2 bt137.1 bt137.2 ((bt a0 0) == 48)) else (none)) else (cowrielaw04_NumberSigns.j1 kj11 bt133.1 bt135.1 bt135.2 bt137.1 bt137.2 true))))) else (none))) = some r := by rw [if_neg (show ¬ (false = true) by decide)] at H; exact H
                  clear H
                  have H := H1
                  clear H1
                  replace H := Option.bind_eq_some_iff.mp H
                  obtain ⟨⟨t133, t134⟩, A180, H⟩ := H
                  replace H : (if 1 + a0.size ≤ 9223372036854775807 then ((number_Parse.f ((⟨#[45]⟩ : ByteArray) ++ a0)).bind fun bt135 => ((number_Parse.f ((⟨#[43]⟩ : ByteArray) ++ a0)).bind fun bt137 => ((cowrielaw04_num.f t134).bind fun t139 => (if t139 = 0 then (if 0 < (a0.size : Int) then (cowrielaw04_NumberSigns.j1 kj11 t133 bt135.1 bt135.2 bt137.1 bt137.2 ((bt a0 0) == 48)) else (none)) else (cowrielaw04_NumberSigns.j1 kj11 t133 bt135.1 bt135.2 bt137.1 bt137.2 true))))) else (none)) = some r := H
                  have A18 := Aside0.mk A180
                  clear A180
                  by_cases c19 : 1 + a0.size ≤ 9223372036854775807
                  · rw [if_pos c19] at H
                    have c19b0 := eq_true c19
                    have c19b1 : decide (1 + a0.size ≤ 9223372036854775807) = true := decide_eq_true c19
                    try have c19b2 : (9223372036854775807 < 1 + a0.size) = False := eq_false (Nat.not_lt.2 c19)
                    replace H := Option.bind_eq_some_iff.mp H
                    obtain ⟨⟨t135, t136⟩, A200, H⟩ := H
                    replace H : ((number_Parse.f ((⟨#[43]⟩ : ByteArray) ++ a0)).bind fun bt137 => ((cowrielaw04_num.f t134).bind fun t139 => (if t139 = 0 then (if 0 < (a0.size : Int) then (cowrielaw04_NumberSigns.j1 kj11 t133 t135 t136 bt137.1 bt137.2 ((bt a0 0) == 48)) else (none)) else (cowrielaw04_NumberSigns.j1 kj11 t133 t135 t136 bt137.1 bt137.2 true)))) = some r := H
                    have A20 := Aside0.mk A200
                    clear A200
                    replace H := Option.bind_eq_some_iff.mp H
                    obtain ⟨⟨t137, t138⟩, A210, H⟩ := H
                    replace H : ((cowrielaw04_num.f t134).bind fun t139 => (if t139 = 0 then (if 0 < (a0.size : Int) then (cowrielaw04_NumberSigns.j1 kj11 t133 t135 t136 t137 t138 ((bt a0 0) == 48)) else (none)) else (cowrielaw04_NumberSigns.j1 kj11 t133 t135 t136 t137 t138 true))) = some r := H
                    have A21 := Aside0.mk A210
                    clear A210
                    have HC22 := Aside0.mk H
                    clear H
                    go_upto_region 12 with (first | ((with_reducible refine gate_callee (f := 9) rfl ?_); refine goesL_ (some 48) rfl rfl Tryd.func9 (by kernel_rfl) rfl #[.string a0] rfl (by (try simp only [List.map_toArray, List.map_cons, List.map_nil]); first | done | rfl | (simp only [List.length_drop, List.length_take]; rfl)) ?_; (with_reducible refine (number_Literal.calls a0 t133 t134 _ A18.out).mono ?_); rintro e w23 ⟨rfl, hb⟩; refine ⟨_, rfl, ?_⟩; have n0_ := Aside0.mk (below_step (by repeat (first | (with_reducible first | exact HB.out | apply below_alloc | apply pw_below_drewN | apply below_drew1) | exact HB.out)) hb); clear HB; have HB := n0_; clear n0_; (try clear hb); (try clear hb2); (try clear hk); (try clear hi)) | ((with_reducible refine gate_callee (f := 5) rfl ?_); refine goesL_ (some 54) rfl rfl Tryd.func5 (by kernel_rfl) rfl #[.string ((⟨#[45]⟩ : ByteArray) ++ a0)] rfl (by (try simp only [List.map_toArray, List.map_cons, List.map_nil]); first | done | rfl | (simp only [List.length_drop, List.length_take]; rfl)) ?_; (with_reducible refine (number_Parse.calls ((⟨#[45]⟩ : ByteArray) ++ a0) t135 t136 _ A20.out).mono ?_); rintro e w24 ⟨rfl, hb⟩; refine ⟨_, rfl, ?_⟩; have n0_ := Aside0.mk (below_step (by repeat (first | (with_reducible first | exact HB.out | apply below_alloc | apply pw_below_drewN | apply below_drew1) | exact HB.out)) hb); clear HB; have HB := n0_; clear n0_; (try clear hb); (try clear hb2); (try clear hk); (try clear hi)) | ((with_reducible refine gate_callee (f := 5) rfl ?_); refine goesL_ (some 60) rfl rfl Tryd.func5 (by kernel_rfl) rfl #[.string ((⟨#[43]⟩ : ByteArray) ++ a0)] rfl (by (try simp only [List.map_toArray, List.map_cons, List.map_nil]); first | done | rfl | (simp only [List.length_drop, List.length_take]; rfl)) ?_; (with_reducible refine (number_Parse.calls ((⟨#[43]⟩ : ByteArray) ++ a0) t137 t138 _ A21.out).mono ?_); rintro e w25 ⟨rfl, hb⟩; refine ⟨_, rfl, ?_⟩; have n0_ := Aside0.mk (below_step (by repeat (first | (with_reducible first | exact HB.out | apply below_alloc | apply pw_below_drewN | apply below_drew1) | exact HB.out)) hb); clear HB; have HB := n0_; clear n0_; (try clear hb); (try clear hb2); (try clear hk); (try clear hi)))
                    (try simp only [Act.put, List.setIfInBounds_toArray, List.set_cons_zero, List.set_cons_succ])
                    go_cut [70] (fun v70 wc => ∃ (kq : Nat) (x70_21 : Bool), v70 = .bool x70_21 ∧ Aside0 (cowrielaw04_NumberSigns.j1 kq t133 t135 t136 t137 t138 x70_21 = some r) ∧ Aside0 (kq ≤ kj11) ∧ Aside0 (Below w.heap.size w wc))
                    case first =>
                      have H := HC22.out
                      clear HC22
                      replace H := Option.bind_eq_some_iff.mp H
                      obtain ⟨t139, A260, H⟩ := H
                      replace H : (if t139 = 0 then (if 0 < (a0.size : Int) then (cowrielaw04_NumberSigns.j1 kj11 t133 t135 t136 t137 t138 ((bt a0 0) == 48)) else (none)) else (cowrielaw04_NumberSigns.j1 kj11 t133 t135 t136 t137 t138 true)) = some r := H
                      have A26 := Aside0.mk A260
                      clear A260
                      by_cases c27 : t139 = 0
                      · rw [if_pos c27] at H
                        have c27b0 : (t139 == 0) = true := beq_iff_eq.mpr c27
                        have c27b1 : (t139 != 0) = false := bne_eq_false_iff_eq.mpr c27
                        clear c27
                        (first | rw [c27b0] | (simp only [i64_w, i32_w]; rw [c27b0]) | skip)
                        by_cases c28 : 0 < (a0.size : Int)
                        · rw [if_pos c28] at H
                          have c28b0 : decide (0 < (a0.size : Int)) = true := decide_eq_true c28
                          have c28b1 : decide (0 < a0.size) = true := decide_eq_true (by omega)
                          clear c28
                          have H' := Aside0.mk H
                          clear H
                          go_wp2_with (first | ((with_reducible refine gate_callee (f := 7) rfl ?_); refine goesL_ (some 64) rfl rfl Tryd.func7 (by kernel_rfl) rfl #[.int .i64 t134] rfl (by (try simp only [List.map_toArray, List.map_cons, List.map_nil]); first | done | rfl | (simp only [List.length_drop, List.length_take]; rfl)) ?_; (with_reducible refine (cowrielaw04_num.calls t134 t139 _ A26.out).mono ?_); rintro e w' ⟨rfl, ⟨nd, rfl⟩⟩; refine ⟨_, rfl, ?_⟩; have p29 : 0 ≤ (0 : Int) := (by omega); have q29 : 0 < a0.size := (by have : (0 : Int) < (a0.size : Int) := of_decide_eq_true (by first | (with_reducible assumption) | assumption); omega); have hx29 : ∀ h : 0 < a0.size, ((a0[0]'h).toNat : Int) = bt a0 0 := bt_at a0 0; clear p29; have qi29 : (0 < (a0.size : Int)) = True := eq_true (of_decide_eq_true (by first | (with_reducible assumption) | assumption)); replace q29 := eq_true q29))
                          go_meet
                          case rel => exact ⟨_, (((bt a0 0) == 48)), (by first | rfl | (simp; done) | (simp [*]; done)), H', ⟨by have := HJ11.out; first | omega | exact Nat.le_refl _⟩, ⟨by repeat (first | (with_reducible first | exact HB.out | apply below_alloc | apply pw_below_drewN | apply below_drew1) | exact HB.out)⟩⟩
                        · rw [if_neg c28] at H
                          exact absurd H (by simp)
                      · rw [if_neg c27] at H
                        have c27b0 : (t139 == 0) = false := beq_eq_false_iff_ne.mpr c27
                        have c27b1 : (t139 != 0) = true := bne_iff_ne.mpr c27
                        (first | rw [c27b0] | (simp only [i64_w, i32_w]; rw [c27b0]) | skip)
                        have H' := Aside0.mk H
                        clear H
                        go_wp2_with (first | ((with_reducible refine gate_callee (f := 7) rfl ?_); refine goesL_ (some 64) rfl rfl Tryd.func7 (by kernel_rfl) rfl #[.int .i64 t134] rfl (by (try simp only [List.map_toArray, List.map_cons, List.map_nil]); first | done | rfl | (simp only [List.length_drop, List.length_take]; rfl)) ?_; (with_reducible refine (cowrielaw04_num.calls t134 t139 _ A26.out).mono ?_); rintro e w' ⟨rfl, ⟨nd, rfl⟩⟩; refine ⟨_, rfl, ?_⟩))
                        go_meet
                        case rel => exact ⟨_, (true), (by first | rfl | (simp; done) | (simp [*]; done)), H', ⟨by have := HJ11.out; first | omega | exact Nat.le_refl _⟩, ⟨by repeat (first | (with_reducible first | exact HB.out | apply below_alloc | apply pw_below_drewN | apply below_drew1) | exact HB.out)⟩⟩
                    case rest =>
                      clear HC22
                      try clear c1
                      try clear c2
                      try clear p2
                      try clear q2
                      try clear hx2
                      try clear qi2
                      try clear c4
                      try clear c5
                      try clear c6
                      try clear c6b0
                      try clear c6b1
                      try clear p6
                      try clear c7
                      try clear c7b0
                      try clear c7b1
                      try clear c8
                      try clear c9
                      try clear c9b0
                      try clear c9b1
                      try clear c9b2
                      try clear c10
                      try clear c10b0
                      try clear c10b1
                      try clear c10b2
                      try clear c16
                      try clear c16b0
                      try clear c16b1
                      try clear c17
                      try clear c19
                      try clear c19b0
                      try clear c19b1
                      try clear c19b2
                      try clear c27
                      try clear c27b0
                      try clear c27b1
                      try clear c28
                      try clear c28b0
                      try clear c28b1
                      try clear p29
                      try clear q29
                      try clear hx29
                      try clear qi29
                      try clear p2
                      try clear p29
                      try clear p6
                      try clear q29
                      obtain ⟨kq, x70_21, rfl, HA, HJ21, HB⟩ := hcut
                      cases kq with
                      | zero => exact absurd HA.out (by simp [cowrielaw04_NumberSigns.j1])
                      | succ kj21 =>
                        have H := HA.out
                        clear HA
                        simp only [cowrielaw04_NumberSigns.j1] at H
                        by_cases c30 : x70_21 = true
                        · subst c30
                          have H1 : (some true) = some r := by rw [if_pos rfl] at H; exact H
                          clear H
                          have H := H1
                          clear H1
                          obtain rfl := Option.some.inj H
                          go_wp2
                          go_ret
                          exact ⟨by first | rfl | (simp [errW_none, errW_some] <;> rfl) | (simp only [← hji5]; first | rfl | (simp [errW_none, errW_some] <;> rfl)) | (simp [*, errW_none, errW_some] <;> rfl), by repeat (first | (with_reducible first | exact HB.out | apply below_alloc | apply pw_below_drewN | apply below_drew1) | exact HB.out)⟩
                        · replace c30 := Bool.eq_false_iff.mpr c30
                          subst c30
                          have H1 : ((cowrielaw04_num.f t136).bind fun t140 => ((cowrielaw04_num.f t138).bind fun t141 => (if (wrap64 (t140 + t141)) = 0 then (if t135 = (wrap64 (-t133)) then (some (t137 == t133)) else (some false)) else (some false)))) = some r := by rw [if_neg (show ¬ (false = true) by decide)] at H; exact H
                          clear H
                          have H := H1
                          clear H1
                          replace H := Option.bind_eq_some_iff.mp H
                          obtain ⟨t140, A310, H⟩ := H
                          replace H : ((cowrielaw04_num.f t138).bind fun t141 => (if (wrap64 (t140 + t141)) = 0 then (if t135 = (wrap64 (-t133)) then (some (t137 == t133)) else (some false)) else (some false))) = some r := H
                          have A31 := Aside0.mk A310
                          clear A310
                          replace H := Option.bind_eq_some_iff.mp H
                          obtain ⟨t141, A320, H⟩ := H
                          replace H : (if (wrap64 (t140 + t141)) = 0 then (if t135 = (wrap64 (-t133)) then (some (t137 == t133)) else (some false)) else (some false)) = some r := H
                          have A32 := Aside0.mk A320
                          clear A320
                          by_cases c33 : (wrap64 (t140 + t141)) = 0
                          · rw [if_pos c33] at H
                            have c33b0 : ((wrap64 (t140 + t141)) == 0) = true := beq_iff_eq.mpr c33
                            have c33b1 : ((wrap64 (t140 + t141)) != 0) = false := bne_eq_false_iff_eq.mpr c33
                            clear c33
                            by_cases c34 : t135 = (wrap64 (-t133))
                            · rw [if_pos c34] at H
                              have c34b0 : (t135 == (wrap64 (-t133))) = true := beq_iff_eq.mpr c34
                              have c34b1 : (t135 != (wrap64 (-t133))) = false := bne_eq_false_iff_eq.mpr c34
                              clear c34
                              obtain rfl := Option.some.inj H
                              go_wp2_with (first | ((with_reducible refine gate_callee (f := 7) rfl ?_); refine goesL_ (some 72) rfl rfl Tryd.func7 (by kernel_rfl) rfl #[.int .i64 t136] rfl (by (try simp only [List.map_toArray, List.map_cons, List.map_nil]); first | done | rfl | (simp only [List.length_drop, List.length_take]; rfl)) ?_; (with_reducible refine (cowrielaw04_num.calls t136 t140 _ A31.out).mono ?_); rintro e w' ⟨rfl, ⟨nd, rfl⟩⟩; refine ⟨_, rfl, ?_⟩) | ((with_reducible refine gate_callee (f := 7) rfl ?_); refine goesL_ (some 74) rfl rfl Tryd.func7 (by kernel_rfl) rfl #[.int .i64 t138] rfl (by (try simp only [List.map_toArray, List.map_cons, List.map_nil]); first | done | rfl | (simp only [List.length_drop, List.length_take]; rfl)) ?_; (with_reducible refine (cowrielaw04_num.calls t138 t141 _ A32.out).mono ?_); rintro e w' ⟨rfl, ⟨nd, rfl⟩⟩; refine ⟨_, rfl, ?_⟩))
                              go_ret
                              exact ⟨by first | rfl | (simp [errW_none, errW_some] <;> rfl) | (simp only [← hji5]; first | rfl | (simp [errW_none, errW_some] <;> rfl)) | (simp [*, errW_none, errW_some] <;> rfl), by repeat (first | (with_reducible first | exact HB.out | apply below_alloc | apply pw_below_drewN | apply below_drew1) | exact HB.out)⟩
                            · rw [if_neg c34] at H
                              have c34b0 : (t135 == (wrap64 (-t133))) = false := beq_eq_false_iff_ne.mpr c34
                              have c34b1 : (t135 != (wrap64 (-t133))) = true := bne_iff_ne.mpr c34
                              obtain rfl := Option.some.inj H
                              go_wp2_with (first | ((with_reducible refine gate_callee (f := 7) rfl ?_); refine goesL_ (some 72) rfl rfl Tryd.func7 (by kernel_rfl) rfl #[.int .i64 t136] rfl (by (try simp only [List.map_toArray, List.map_cons, List.map_nil]); first | done | rfl | (simp only [List.length_drop, List.length_take]; rfl)) ?_; (with_reducible refine (cowrielaw04_num.calls t136 t140 _ A31.out).mono ?_); rintro e w' ⟨rfl, ⟨nd, rfl⟩⟩; refine ⟨_, rfl, ?_⟩) | ((with_reducible refine gate_callee (f := 7) rfl ?_); refine goesL_ (some 74) rfl rfl Tryd.func7 (by kernel_rfl) rfl #[.int .i64 t138] rfl (by (try simp only [List.map_toArray, List.map_cons, List.map_nil]); first | done | rfl | (simp only [List.length_drop, List.length_take]; rfl)) ?_; (with_reducible refine (cowrielaw04_num.calls t138 t141 _ A32.out).mono ?_); rintro e w' ⟨rfl, ⟨nd, rfl⟩⟩; refine ⟨_, rfl, ?_⟩))
                              go_ret
                              exact ⟨by first | rfl | (simp [errW_none, errW_some] <;> rfl) | (simp only [← hji5]; first | rfl | (simp [errW_none, errW_some] <;> rfl)) | (simp [*, errW_none, errW_some] <;> rfl), by repeat (first | (with_reducible first | exact HB.out | apply below_alloc | apply pw_below_drewN | apply below_drew1) | exact HB.out)⟩
                          · rw [if_neg c33] at H
                            have c33b0 : ((wrap64 (t140 + t141)) == 0) = false := beq_eq_false_iff_ne.mpr c33
                            have c33b1 : ((wrap64 (t140 + t141)) != 0) = true := bne_iff_ne.mpr c33
                            obtain rfl := Option.some.inj H
                            go_wp2_with (first | ((with_reducible refine gate_callee (f := 7) rfl ?_); refine goesL_ (some 72) rfl rfl Tryd.func7 (by kernel_rfl) rfl #[.int .i64 t136] rfl (by (try simp only [List.map_toArray, List.map_cons, List.map_nil]); first | done | rfl | (simp only [List.length_drop, List.length_take]; rfl)) ?_; (with_reducible refine (cowrielaw04_num.calls t136 t140 _ A31.out).mono ?_); rintro e w' ⟨rfl, ⟨nd, rfl⟩⟩; refine ⟨_, rfl, ?_⟩) | ((with_reducible refine gate_callee (f := 7) rfl ?_); refine goesL_ (some 74) rfl rfl Tryd.func7 (by kernel_rfl) rfl #[.int .i64 t138] rfl (by (try simp only [List.map_toArray, List.map_cons, List.map_nil]); first | done | rfl | (simp only [List.length_drop, List.length_take]; rfl)) ?_; (with_reducible refine (cowrielaw04_num.calls t138 t141 _ A32.out).mono ?_); rintro e w' ⟨rfl, ⟨nd, rfl⟩⟩; refine ⟨_, rfl, ?_⟩))
                            go_ret
                            exact ⟨by first | rfl | (simp [errW_none, errW_some] <;> rfl) | (simp only [← hji5]; first | rfl | (simp [errW_none, errW_some] <;> rfl)) | (simp [*, errW_none, errW_some] <;> rfl), by repeat (first | (with_reducible first | exact HB.out | apply below_alloc | apply pw_below_drewN | apply below_drew1) | exact HB.out)⟩
                  · rw [if_neg c19] at H
                    exact absurd H (by simp)
          · rw [if_neg c10] at H
            exact absurd H (by simp)
        · rw [if_neg c9] at H
          exact absurd H (by simp)
      · rw [if_neg c7] at H
        exact absurd H (by simp)
    · rw [if_neg c6] at H
      exact absurd H (by simp)
  · replace c4 := Bool.eq_false_iff.mpr c4
    subst c4
    have H1 : (some false) = some r := by rw [if_neg (show ¬ (false = true) by decide)] at H; exact H
    clear H
    have H := H1
    clear H1
    obtain rfl := Option.some.inj H
    go_enter Tryd.func4, Tryd.ntmps4
    go_wp2_with (first | ((with_reducible refine gate_callee (f := 8) rfl ?_); refine goesL_ (some 16) rfl rfl Tryd.func8 (by kernel_rfl) rfl #[] rfl (by (try simp only [List.map_toArray, List.map_cons, List.map_nil]); first | done | rfl | (simp only [List.length_drop, List.length_take]; rfl)) ?_; (with_reducible refine (cowrielaw04_alive.calls  false _ A3.out).mono ?_); rintro e w35 ⟨rfl, hb⟩; refine ⟨_, rfl, ?_⟩; have n0_ := Aside0.mk (below_step (by repeat (first | (with_reducible first | exact HB.out | apply below_alloc | apply pw_below_drewN | apply below_drew1) | exact HB.out)) hb); clear HB; have HB := n0_; clear n0_; (try clear hb); (try clear hb2); (try clear hk); (try clear hi)))
    go_ret
    exact ⟨by first | rfl | (simp [errW_none, errW_some] <;> rfl) | (simp [*, errW_none, errW_some] <;> rfl), by repeat (first | (with_reducible first | exact HB.out | apply below_alloc | apply pw_below_drewN | apply below_drew1) | exact HB.out)⟩

/-- THE ONE PURE STATEMENT of cowrielaw04_NumberSigns: yours. -/
def cowrielaw04_NumberSigns.Pure : Prop := ∀ (a0 : ByteArray) (a1 : Int), a0.size ≤ 140737488351232 → (Lit.int .i64 a1).wf = true → ∃ k, cowrielaw04_NumberSigns.f k a0 a1 = some true
theorem cowrielaw04_NumberSigns.walk (P : cowrielaw04_NumberSigns.Pure) (a0 : ByteArray) (a1 : Int) (w : World) (w0 : a0.size ≤ 140737488351232) (w1 : (Lit.int .i64 a1).wf = true) :
    Calls Tryd.prog 4 #[.string a0, .int .i64 a1] w fun e w' => e = .returned (.bool true) ∧ Below w.heap.size w w' := by
  obtain ⟨k, h⟩ := P a0 a1 w0 w1
  refine (cowrielaw04_NumberSigns.calls k a0 a1 true w h).mono ?_
  rintro e w' ⟨rfl, hd⟩
  exact ⟨rfl, hd⟩

end Go.Proofs.YtkbeapfcihgjfaaDoor.P

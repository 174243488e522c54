-- Written by a program of this session (xprint.py) out of the translation.
import Derived.Test.YtdfddiehiiaepaaDoorQ0
import Derived.Test.YtdfddiehiiaepaaDoorTrim
import Derived.Test.YtdfddiehiiaepaaDoorNum
namespace Go.Proofs.YtdfddiehiiaepaaDoor.Q
open Go.RowKit Go.Proofs.YtdfddiehiiaepaaDoorW.PrintWords Go.Proofs.YtdfddiehiiaepaaDoorW.PrintLast Go.Proofs.YtdfddiehiiaepaaDoor.Ext Go.Proofs.YtdfddiehiiaepaaDoorW.PrintMore
attribute [local go_sem] max2_int min2_int max_two min_two max_three min_three max_four min_four   -- for this text's walks alone
set_option linter.unusedVariables false
set_option linter.unusedSimpArgs false

/-! ### test_order: function 38 -/
def test_order.f (a0 : ByteArray) (a1 : Int) (a2 : Int) : Option (Bool) := if a0.toList = ([45, 101, 113] : List UInt8) then (some (a1 == a2)) else (if a0.toList = ([45, 110, 101] : List UInt8) then (some (a1 != a2)) else (if a0.toList = ([45, 108, 116] : List UInt8) then (some (decide (a1 < a2))) else (if a0.toList = ([45, 108, 101] : List UInt8) then (some (decide (a1 ≤ a2))) else (if a0.toList = ([45, 103, 116] : List UInt8) then (some (decide (a1 > a2))) else (some (decide (a1 ≥ a2)))))))
set_option maxHeartbeats 8000000 in
set_option maxRecDepth 100000 in
theorem test_order.calls (a0 : ByteArray) (a1 : Int) (a2 : Int) (r : Bool) (w : World) (h : test_order.f a0 a1 a2 = some r) :
    Calls Tryd.prog 38 #[.string a0, .int .i64 a1, .int .i64 a2] w fun e w' => e = .returned (.bool r) ∧ Drawn0 w w' := by
  have H : (if a0.toList = ([45, 101, 113] : List UInt8) then (some (a1 == a2)) else (if a0.toList = ([45, 110, 101] : List UInt8) then (some (a1 != a2)) else (if a0.toList = ([45, 108, 116] : List UInt8) then (some (decide (a1 < a2))) else (if a0.toList = ([45, 108, 101] : List UInt8) then (some (decide (a1 ≤ a2))) else (if a0.toList = ([45, 103, 116] : List UInt8) then (some (decide (a1 > a2))) else (some (decide (a1 ≥ a2)))))))) = some r := h
  clear h
  by_cases c4 : a0.toList = ([45, 101, 113] : List UInt8)
  · rw [if_pos c4] at H
    have c4b0 : (a0.toList == ([45, 101, 113] : List UInt8)) = true := beq_iff_eq.mpr c4
    have c4b1 : (a0.toList != ([45, 101, 113] : List UInt8)) = false := bne_eq_false_iff_eq.mpr c4
    clear c4
    obtain rfl := Option.some.inj H
    go_enter Tryd.func38, Tryd.ntmps38
    go_wp2
    go_ret
    exact ⟨by first | rfl | (simp; done) | (simp [*]; done), by repeat (first | exact Drawn0.refl _ | apply Drawn0.step)⟩
  · rw [if_neg c4] at H
    have c4b0 : (a0.toList == ([45, 101, 113] : List UInt8)) = false := beq_eq_false_iff_ne.mpr c4
    have c4b1 : (a0.toList != ([45, 101, 113] : List UInt8)) = true := bne_iff_ne.mpr c4
    by_cases c5 : a0.toList = ([45, 110, 101] : List UInt8)
    · rw [if_pos c5] at H
      have c5b0 : (a0.toList == ([45, 110, 101] : List UInt8)) = true := beq_iff_eq.mpr c5
      have c5b1 : (a0.toList != ([45, 110, 101] : List UInt8)) = false := bne_eq_false_iff_eq.mpr c5
      clear c5
      obtain rfl := Option.some.inj H
      go_enter Tryd.func38, Tryd.ntmps38
      go_wp2
      go_ret
      exact ⟨by first | rfl | (simp; done) | (simp [*]; done), by repeat (first | exact Drawn0.refl _ | apply Drawn0.step)⟩
    · rw [if_neg c5] at H
      have c5b0 : (a0.toList == ([45, 110, 101] : List UInt8)) = false := beq_eq_false_iff_ne.mpr c5
      have c5b1 : (a0.toList != ([45, 110, 101] : List UInt8)) = true := bne_iff_ne.mpr c5
      by_cases c6 : a0.toList = ([45, 108, 116] : List UInt8)
      · rw [if_pos c6] at H
        have c6b0 : (a0.toList == ([45, 108, 116] : List UInt8)) = true := beq_iff_eq.mpr c6
        have c6b1 : (a0.toList != ([45, 108, 116] : List UInt8)) = false := bne_eq_false_iff_eq.mpr c6
        clear c6
        obtain rfl := Option.some.inj H
        go_enter Tryd.func38, Tryd.ntmps38
        go_wp2
        go_ret
        exact ⟨by first | rfl | (simp; done) | (simp [*]; done), by repeat (first | exact Drawn0.refl _ | apply Drawn0.step)⟩
      · rw [if_neg c6] at H
        have c6b0 : (a0.toList == ([45, 108, 116] : List UInt8)) = false := beq_eq_false_iff_ne.mpr c6
        have c6b1 : (a0.toList != ([45, 108, 116] : List UInt8)) = true := bne_iff_ne.mpr c6
        by_cases c7 : a0.toList = ([45, 108, 101] : List UInt8)
        · rw [if_pos c7] at H
          have c7b0 : (a0.toList == ([45, 108, 101] : List UInt8)) = true := beq_iff_eq.mpr c7
          have c7b1 : (a0.toList != ([45, 108, 101] : List UInt8)) = false := bne_eq_false_iff_eq.mpr c7
          clear c7
          obtain rfl := Option.some.inj H
          go_enter Tryd.func38, Tryd.ntmps38
          go_wp2
          go_ret
          exact ⟨by first | rfl | (simp; done) | (simp [*]; done), by repeat (first | exact Drawn0.refl _ | apply Drawn0.step)⟩
        · rw [if_neg c7] at H
          have c7b0 : (a0.toList == ([45, 108, 101] : List UInt8)) = false := beq_eq_false_iff_ne.mpr c7
          have c7b1 : (a0.toList != ([45, 108, 101] : List UInt8)) = true := bne_iff_ne.mpr c7
          by_cases c8 : a0.toList = ([45, 103, 116] : List UInt8)
          · rw [if_pos c8] at H
            have c8b0 : (a0.toList == ([45, 103, 116] : List UInt8)) = true := beq_iff_eq.mpr c8
            have c8b1 : (a0.toList != ([45, 103, 116] : List UInt8)) = false := bne_eq_false_iff_eq.mpr c8
            clear c8
            obtain rfl := Option.some.inj H
            go_enter Tryd.func38, Tryd.ntmps38
            go_wp2
            go_ret
            exact ⟨by first | rfl | (simp; done) | (simp [*]; done), by repeat (first | exact Drawn0.refl _ | apply Drawn0.step)⟩
          · rw [if_neg c8] at H
            have c8b0 : (a0.toList == ([45, 103, 116] : List UInt8)) = false := beq_eq_false_iff_ne.mpr c8
            have c8b1 : (a0.toList != ([45, 103, 116] : List UInt8)) = true := bne_iff_ne.mpr c8
            obtain rfl := Option.some.inj H
            go_enter Tryd.func38, Tryd.ntmps38
            go_wp2
            go_ret
            exact ⟨by first | rfl | (simp; done) | (simp [*]; done), by repeat (first | exact Drawn0.refl _ | apply Drawn0.step)⟩

/-- THE ONE PURE STATEMENT of test_order: yours. -/
def test_order.Pure : Prop := ∀ (a0 : ByteArray) (a1 : Int) (a2 : Int), a0.size ≤ 140737488351232 → (Lit.int .i64 a1).wf = true → (Lit.int .i64 a2).wf = true → test_order.f a0 a1 a2 = some true
theorem test_order.walk (P : test_order.Pure) (a0 : ByteArray) (a1 : Int) (a2 : Int) (w : World) (w0 : a0.size ≤ 140737488351232) (w1 : (Lit.int .i64 a1).wf = true) (w2 : (Lit.int .i64 a2).wf = true) :
    Calls Tryd.prog 38 #[.string a0, .int .i64 a1, .int .i64 a2] w fun e w' => e = .returned (.bool true) ∧ Below w.heap.size w w' := by
  have h := P a0 a1 a2 w0 w1 w2
  refine (test_order.calls a0 a1 a2 true w h).mono ?_
  rintro e w' ⟨rfl, hd⟩
  exact ⟨rfl, hd.below⟩

end Go.Proofs.YtdfddiehiiaepaaDoor.Q

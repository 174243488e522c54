/- What cowrieref09.conversion answers (its four ways put together). -/
import Derived.Test.YtagdkbncfcdhdaaDoorVConvRM
import Derived.Test.YtagdkbncfcdhdaaDoorVConvRZ
import Derived.Test.YtagdkbncfcdhdaaDoorVConvRN
import Derived.Test.YtagdkbncfcdhdaaDoorVConvRS
set_option linter.unusedVariables false
namespace Go.Proofs.YtagdkbncfcdhdaaDoor.Ext
open Go.RowKit Go.Proofs.YtagdkbncfcdhdaaDoorW.PrintWords
theorem y_nil (x : ByteArray) (h : x.size = 1) : (x.extract 1 x.size).toList = [] := by
  have hy : (x.extract 1 x.size).size = 0 := by rw [ByteArray.size_extract]; omega
  rw [Lib.toList_data]
  exact List.eq_nil_of_length_eq_zero (by rw [← Lib.size_eq]; exact hy)
theorem y_ne (x : ByteArray) (h : 1 < x.size) : (x.extract 1 x.size).toList ≠ [] := by
  intro e
  have hy : (x.extract 1 x.size).size = x.size - 1 := by rw [ByteArray.size_extract]; omega
  rw [Lib.toList_data] at e
  have := Lib.size_eq (x.extract 1 x.size)
  rw [e, List.length_nil] at this
  omega
theorem cowrieref09_conversion.calls (x : ByteArray) (r0 : Int) (r1 r2 : Bool) (r3 r4 : Int) (w : World) (h : cowrieref09_conversion.f x = some (r0, r1, r2, r3, r4)) :
    Calls Tryd.prog 28 #[.string x] w fun e w' => e = .returned (.agg #[.int .u8 r0, .bool r1, .bool r2, .int .i64 r3, .int .i64 r4]) ∧ Below w.heap.size w w' := by
  unfold cowrieref09_conversion.f at h
  split at h
  case isFalse => cases h
  rename_i hs
  obtain ⟨hs1, hs9⟩ := hs
  obtain ⟨R, hR, hE⟩ := Option.map_eq_some_iff.1 h
  have hA : (.agg #[.int .u8 r0, .bool r1, .bool r2, .int .i64 r3, .int .i64 r4] : Value) = aggOf (convOf R) := by rw [hE]; rfl
  rw [hA]
  unfold Q.printf_conversion.f at hR
  by_cases h1 : x.size = 1
  · have hy := y_nil x h1
    rw [if_pos hy, show (20 : Nat) = 19 + 1 from rfl, Q.printf_conversion.j0, if_neg (by decide), if_pos hy, show (19 : Nat) = 18 + 1 from rfl, Q.printf_conversion.j1, if_neg (by decide), show (18 : Nat) = 17 + 1 from rfl, Q.printf_conversion.j2] at hR
    exact conv_short x w R h1 hs9 hR
  · have h2 : 1 < x.size := by omega
    have hy := y_ne x h2
    have hys := y_size x hs1
    have hb : bt (x.extract 1 x.size) 0 = bt x 1 := tail_y x 0 h2
    have hp : (0 : Int) < ((x.extract 1 x.size).size : Int) := by omega
    rw [if_neg hy, if_pos hp, show (20 : Nat) = 19 + 1 from rfl, Q.printf_conversion.j0, hb] at hR
    by_cases c1 : bt x 1 = 37
    · rw [if_pos (beq_iff_eq.2 c1)] at hR
      obtain rfl := Option.some.inj hR
      rw [show convOf (37, 0, 0, 1, true) = (37, false, false, 0, 2) from by
        unfold convOf
        rw [if_pos rfl, show wrap64 ((1 : Int) + 1) = 2 from by unfold wrap64; omega]
        rfl]
      exact conv_pct x w h2 c1
    · rw [beq_eq_false_iff_ne.2 c1, if_neg (by decide), if_neg hy, if_pos hp] at hR
      by_cases c2 : bt x 1 = 45
      · rw [if_pos c2, show (19 : Nat) = 18 + 1 from rfl, Q.printf_conversion.j1, if_pos rfl, if_pos hp, hb, c2, show (18 : Nat) = 17 + 1 from rfl, Q.printf_conversion.j2] at hR
        exact conv_minus x w R h2 c2 hs9 hR
      · rw [if_neg c2] at hR
        by_cases c3 : bt x 1 = 48
        · rw [beq_iff_eq.2 c3, show (19 : Nat) = 18 + 1 from rfl, Q.printf_conversion.j1, if_pos rfl, if_pos hp, hb, c3, show (18 : Nat) = 17 + 1 from rfl, Q.printf_conversion.j2] at hR
          exact conv_zero x w R h2 c3 hs9 hR
        · rw [beq_eq_false_iff_ne.2 c3, show (19 : Nat) = 18 + 1 from rfl, Q.printf_conversion.j1, if_neg (by decide), show (18 : Nat) = 17 + 1 from rfl, Q.printf_conversion.j2] at hR
          exact conv_none x w R h2 c1 c2 c3 hs9 hR
end Go.Proofs.YtagdkbncfcdhdaaDoor.Ext

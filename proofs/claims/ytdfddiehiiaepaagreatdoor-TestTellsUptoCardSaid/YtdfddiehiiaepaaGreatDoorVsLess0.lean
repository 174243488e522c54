/- Proved: what x > y and x <= y of two strings are, in the spelling of the print (the print turns the two around). -/
import Derived.Laws.Strings
import Derived.Laws.Small
namespace Go.Proofs.YtdfddiehiiaepaaGreatDoor.Low
open Go
theorem bl_gtr : ∀ x y : List UInt8, (!(Op.bytesLess x y || x == y)) = Op.bytesLess y x
  | [], [] => by decide
  | a :: x, [] => by simp [Op.bytesLess]
  | [], b :: y => by simp [Op.bytesLess]
  | a :: x, b :: y => by
    have ih := bl_gtr x y
    have h4 : ((a :: x) == (b :: y)) = ((a == b) && (x == y)) := rfl
    rw [Op.bytesLess, Op.bytesLess, h4, ← ih]
    rcases Nat.lt_trichotomy a.toNat b.toNat with h | h | h
    · have h1 : a < b := UInt8.lt_iff_toNat_lt.2 h
      have h2 : ¬ b < a := fun e => by have := UInt8.lt_iff_toNat_lt.1 e; omega
      have h3 : b ≠ a := fun e => by rw [e] at h; omega
      simp [h1, h2, h3]
    · obtain rfl : a = b := UInt8.toNat_inj.1 h
      have h1 : ¬ a < a := fun e => by have := UInt8.lt_iff_toNat_lt.1 e; omega
      simp [h1]
    · have h1 : b < a := UInt8.lt_iff_toNat_lt.2 h
      have h2 : ¬ a < b := fun e => by have := UInt8.lt_iff_toNat_lt.1 e; omega
      have h3 : a ≠ b := fun e => by rw [e] at h; omega
      simp [h1, h2, h3]
@[go_sem] theorem binOp_gtr_turned (t : TypeId) (a b : ByteArray) : binOp .gtr t (.string a) (.string b) = pure (.bool (Op.bytesLess b.toList a.toList)) := by
  rw [← bl_gtr]
  simp [binOp, Op.stringOp]
theorem bl_leq (x y : List UInt8) : (Op.bytesLess x y || x == y) = !Op.bytesLess y x := by
  rw [← bl_gtr x y, Bool.not_not]
@[go_sem] theorem binOp_leq_turned (t : TypeId) (a b : ByteArray) : binOp .leq t (.string a) (.string b) = pure (.bool (!Op.bytesLess b.toList a.toList)) := by
  rw [← bl_leq]
  simp [binOp, Op.stringOp]
end Go.Proofs.YtdfddiehiiaepaaGreatDoor.Low

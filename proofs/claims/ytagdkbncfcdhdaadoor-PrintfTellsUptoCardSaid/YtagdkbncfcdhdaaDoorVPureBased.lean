/- Proved: what %d, %x and %o tell of a number's digits, and that the digits of a base are read again as the number. Plain Lean: no program's step. -/
import Derived.Test.YtagdkbncfcdhdaaDoorVP1
import Derived.Test.YtagdkbncfcdhdaaDoorVDecParse
import Derived.Laws.Bits64
set_option linter.unusedVariables false
namespace Go.Proofs.YtagdkbncfcdhdaaDoor.PurePf
open Go.RowKit Go.Proofs.YtagdkbncfcdhdaaDoor.Ext Go.Proofs.YtagdkbncfcdhdaaDoorW.PrintWords
def HX : ByteArray := ⟨#[48, 49, 50, 51, 52, 53, 54, 55, 56, 57, 97, 98, 99, 100, 101, 102]⟩
/-- A digit's octet. -/
def hx (d : Nat) : UInt8 := if d < 10 then UInt8.ofNat (48 + d) else UInt8.ofNat (87 + d)
/-- The digits of a base B, at most so many. -/
def bh (B : Nat) : Nat → Nat → List UInt8
  | 0, _ => []
  | k + 1, n => if n / B = 0 then [hx (n % B)] else bh B k (n / B) ++ [hx (n % B)]
theorem bh_len (B : Nat) : ∀ k n, (bh B k n).length ≤ k
  | 0, _ => Nat.le_refl _
  | k + 1, n => by
    have := bh_len B k (n / B)
    rw [bh]
    split
    · simp
    · rw [List.length_append, List.length_singleton]
      omega
theorem hx_str : ∀ d : Fin 16, strOfNums [bt HX ((d : Nat) : Int)] = ⟨#[hx d]⟩ := by decide +kernel
theorem and_u64 (a n : Nat) (ha : a < 18446744073709551616) (hn : n ≤ 8) : Go.bits .and .u64 (a : Int) ((2 ^ n - 1 : Nat) : Int) = ((a % 2 ^ n : Nat) : Int) := by
  have hp : 2 ^ n ≤ 2 ^ 8 := Nat.pow_le_pow_right (by decide) hn
  have hb : 2 ^ n - 1 < 18446744073709551616 := by omega
  have h1 : (BitVec.ofInt 64 (a : Int)).toNat = a := by
    rw [BitVec.ofInt_natCast, BitVec.toNat_ofNat]; exact Nat.mod_eq_of_lt (by omega)
  have h2 : (BitVec.ofInt 64 ((2 ^ n - 1 : Nat) : Int)).toNat = 2 ^ n - 1 := by
    rw [BitVec.ofInt_natCast, BitVec.toNat_ofNat]; exact Nat.mod_eq_of_lt (by omega)
  have h3 : a &&& (2 ^ n - 1) = a % 2 ^ n := Nat.and_two_pow_sub_one_eq_mod a n
  have h4 : a % 2 ^ n < 2 ^ n := Nat.mod_lt _ (Nat.two_pow_pos n)
  show IntKind.u64.wrap ((BitVec.ofInt 64 (a : Int) &&& BitVec.ofInt 64 ((2 ^ n - 1 : Nat) : Int)).toNat : Int) = _
  rw [BitVec.toNat_and, h1, h2, IntKind.wrap_u64, h3]
  omega
theorem mask (b : Nat) (hb : b = 3 ∨ b = 4) : IntKind.u64.wrap ((shl .u64 1 (b : Int)) - 1) = ((2 ^ b - 1 : Nat) : Int) := by
  rcases hb with rfl | rfl <;> decide
theorem shr_u64 (a b : Nat) (hb : b = 3 ∨ b = 4) : shr .u64 (a : Int) (b : Int) = ((a / 2 ^ b : Nat) : Int) := by
  rcases hb with rfl | rfl <;> (unfold shr; rfl)
theorem based (b : Nat) (hb : b = 3 ∨ b = 4) : ∀ (k n : Nat), n < (2 ^ b) ^ k → 1 ≤ k → k ≤ 1000 → n < 18446744073709551616 → T.printf_based.f k (n : Int) (b : Int) = some ⟨(bh (2 ^ b) k n).toArray⟩ := by
  intro k
  induction k with
  | zero => intro n _ h; omega
  | succ k ih =>
    intro n hn _ hk h64
    have hp : 2 ^ b = 8 ∨ 2 ^ b = 16 := by rcases hb with rfl | rfl; exact .inl rfl; exact .inr rfl
    have hd : n % 2 ^ b < 16 := by
      have := Nat.mod_lt n (show 0 < 2 ^ b by omega)
      omega
    have hb8 : b ≤ 8 := by omega
    have hs := hx_str ⟨n % 2 ^ b, hd⟩
    have hl := bh_len (2 ^ b) k (n / 2 ^ b)
    unfold HX at hs
    rw [T.printf_based.f, mask b hb, and_u64 n b h64 hb8, shr_u64 n b hb, if_pos (by omega), if_pos (by omega), if_pos (by omega), bh]
    by_cases h0 : n / 2 ^ b = 0
    · rw [if_pos (by rw [h0]; rfl), if_pos h0]
      exact congrArg some hs
    · have hk1 : 1 ≤ k := by
        rcases Nat.eq_zero_or_pos k with rfl | h
        · rw [Nat.pow_one] at hn
          exact absurd (Nat.div_eq_of_lt hn) h0
        · exact h
      have hdn : n / 2 ^ b < (2 ^ b) ^ k := by
        rw [Nat.div_lt_iff_lt_mul (by omega), ← Nat.pow_succ]
        exact hn
      have hle : n / 2 ^ b ≤ n := Nat.div_le_self _ _
      rw [if_neg (by omega), if_neg h0, ih (n / 2 ^ b) hdn hk1 (by omega) (by omega), Option.bind_some, Option.bind_some]
      have hsz : (⟨(bh (2 ^ b) k (n / 2 ^ b)).toArray⟩ : ByteArray).size = (bh (2 ^ b) k (n / 2 ^ b)).length := by simp [ByteArray.size]
      rw [show strOfNums _ = (⟨#[hx (n % 2 ^ b)]⟩ : ByteArray) from hs, if_pos (by rw [hsz]; show _ + 1 ≤ _; omega)]
      congr 1
/-- A digit's octet as a number. -/
def dv (c : UInt8) : Nat := if 97 ≤ c.toNat then c.toNat - 97 + 10 else (c.toNat + 256 - 48) % 256
/-- Octets as a number of base B, modulo 2^64. -/
def bk (B : Nat) : List UInt8 → Nat → Nat
  | [], n => n
  | c :: l, n => bk B l ((n * B + dv c) % 18446744073709551616)
end Go.Proofs.YtagdkbncfcdhdaaDoor.PurePf

/- Proved: what %d, %x and %o tell of a number's digits, and that the digits of a base are read again as the number. Plain Lean: no program's step. -/
import Derived.Test.YtagdkbncfcdhdaaDoorPurePrintf
import Derived.Test.YtagdkbncfcdhdaaDoorDecParse
import Derived.Laws.Bits64
set_option linter.unusedVariables false
namespace Go.Proofs.YtagdkbncfcdhdaaDoor.PurePf
open Go.RowKit Go.Proofs.YtagdkbncfcdhdaaDoor.Ext Go.Proofs.YtagdkbncfcdhdaaDoorW.PrintWords

def HX : ByteArray := ⟨#[48, 49, 50, 51, 52, 53, 54, 55, 56, 57, 97, 98, 99, 100, 101, 102]⟩
/-- A digit's octet. -/
def hx (d : Nat) : UInt8 := if d < 10 then UInt8.ofNat (48 + d) else UInt8.ofNat (87 + d)
/-- The digits of a base B, at most so many. -/
def bh (B : Nat) : Nat → Nat → List UInt8
  | 0, _ => []
  | k + 1, n => if n / B = 0 then [hx (n % B)] else bh B k (n / B) ++ [hx (n % B)]
theorem bh_len (B : Nat) : ∀ k n, (bh B k n).length ≤ k
  | 0, _ => Nat.le_refl _
  | k + 1, n => by
    have := bh_len B k (n / B)
    rw [bh]
    split
    · simp
    · rw [List.length_append, List.length_singleton]
      omega
theorem hx_str : ∀ d : Fin 16, strOfNums [bt HX ((d : Nat) : Int)] = ⟨#[hx d]⟩ := by decide +kernel
theorem and_u64 (a n : Nat) (ha : a < 18446744073709551616) (hn : n ≤ 8) : Go.bits .and .u64 (a : Int) ((2 ^ n - 1 : Nat) : Int) = ((a % 2 ^ n : Nat) : Int) := by
  have hp : 2 ^ n ≤ 2 ^ 8 := Nat.pow_le_pow_right (by decide) hn
  have hb : 2 ^ n - 1 < 18446744073709551616 := by omega
  have h1 : (BitVec.ofInt 64 (a : Int)).toNat = a := by
    rw [BitVec.ofInt_natCast, BitVec.toNat_ofNat]; exact Nat.mod_eq_of_lt (by omega)
  have h2 : (BitVec.ofInt 64 ((2 ^ n - 1 : Nat) : Int)).toNat = 2 ^ n - 1 := by
    rw [BitVec.ofInt_natCast, BitVec.toNat_ofNat]; exact Nat.mod_eq_of_lt (by omega)
  have h3 : a &&& (2 ^ n - 1) = a % 2 ^ n := Nat.and_two_pow_sub_one_eq_mod a n
  have h4 : a % 2 ^ n < 2 ^ n := Nat.mod_lt _ (Nat.two_pow_pos n)
  show IntKind.u64.wrap ((BitVec.ofInt 64 (a : Int) &&& BitVec.ofInt 64 ((2 ^ n - 1 : Nat) : Int)).toNat : Int) = _
  rw [BitVec.toNat_and, h1, h2, IntKind.wrap_u64, h3]
  omega
theorem mask (b : Nat) (hb : b = 3 ∨ b = 4) : IntKind.u64.wrap ((shl .u64 1 (b : Int)) - 1) = ((2 ^ b - 1 : Nat) : Int) := by
  rcases hb with rfl | rfl <;> decide
theorem shr_u64 (a b : Nat) (hb : b = 3 ∨ b = 4) : shr .u64 (a : Int) (b : Int) = ((a / 2 ^ b : Nat) : Int) := by
  rcases hb with rfl | rfl <;> (unfold shr; rfl)
theorem based (b : Nat) (hb : b = 3 ∨ b = 4) : ∀ (k n : Nat), n < (2 ^ b) ^ k → 1 ≤ k → k ≤ 1000 → n < 18446744073709551616 → T.printf_based.f k (n : Int) (b : Int) = some ⟨(bh (2 ^ b) k n).toArray⟩ := by
  intro k
  induction k with
  | zero => intro n _ h; omega
  | succ k ih =>
    intro n hn _ hk h64
    have hp : 2 ^ b = 8 ∨ 2 ^ b = 16 := by rcases hb with rfl | rfl; exact .inl rfl; exact .inr rfl
    have hd : n % 2 ^ b < 16 := by
      have := Nat.mod_lt n (show 0 < 2 ^ b by omega)
      omega
    have hb8 : b ≤ 8 := by omega
    have hs := hx_str ⟨n % 2 ^ b, hd⟩
    have hl := bh_len (2 ^ b) k (n / 2 ^ b)
    unfold HX at hs
    rw [T.printf_based.f, mask b hb, and_u64 n b h64 hb8, shr_u64 n b hb, if_pos (by omega), if_pos (by omega), if_pos (by omega), bh]
    by_cases h0 : n / 2 ^ b = 0
    · rw [if_pos (by rw [h0]; rfl), if_pos h0]
      exact congrArg some hs
    · have hk1 : 1 ≤ k := by
        rcases Nat.eq_zero_or_pos k with rfl | h
        · rw [Nat.pow_one] at hn
          exact absurd (Nat.div_eq_of_lt hn) h0
        · exact h
      have hdn : n / 2 ^ b < (2 ^ b) ^ k := by
        rw [Nat.div_lt_iff_lt_mul (by omega), ← Nat.pow_succ]
        exact hn
      have hle : n / 2 ^ b ≤ n := Nat.div_le_self _ _
      rw [if_neg (by omega), if_neg h0, ih (n / 2 ^ b) hdn hk1 (by omega) (by omega), Option.bind_some, Option.bind_some]
      have hsz : (⟨(bh (2 ^ b) k (n / 2 ^ b)).toArray⟩ : ByteArray).size = (bh (2 ^ b) k (n / 2 ^ b)).length := by simp [ByteArray.size]
      rw [show strOfNums _ = (⟨#[hx (n % 2 ^ b)]⟩ : ByteArray) from hs, if_pos (by rw [hsz]; show _ + 1 ≤ _; omega)]
      congr 1

/-- A digit's octet as a number. -/
def dv (c : UInt8) : Nat := if 97 ≤ c.toNat then c.toNat - 97 + 10 else (c.toNat + 256 - 48) % 256
theorem dv_hx : ∀ d : Fin 16, dv (hx d) = d := by decide
/-- Octets as a number of base B, modulo 2^64. -/
def bk (B : Nat) : List UInt8 → Nat → Nat
  | [], n => n
  | c :: l, n => bk B l ((n * B + dv c) % 18446744073709551616)
theorem bk_snoc (B : Nat) : ∀ (l : List UInt8) (c : UInt8) (n : Nat), bk B (l ++ [c]) n = (bk B l n * B + dv c) % 18446744073709551616
  | [], c, n => by rw [List.nil_append, bk, bk, bk]
  | x :: l, c, n => by rw [List.cons_append, bk, bk_snoc B l c, bk]
theorem bk_bh (B : Nat) (hB : 2 ≤ B ∧ B ≤ 16) : ∀ (k n : Nat), n < B ^ k → 1 ≤ k → n < 18446744073709551616 → bk B (bh B k n) 0 = n := by
  intro k
  induction k with
  | zero => intro n _ h; omega
  | succ k ih =>
    intro n hn _ h64
    have hd : n % B < 16 := by
      have := Nat.mod_lt n (show 0 < B by omega)
      omega
    have hv : dv (hx (n % B)) = n % B := dv_hx ⟨n % B, hd⟩
    have hdm := Nat.div_add_mod n B
    rw [bh]
    split
    · rename_i h0
      have h1 : n % B = n := by rw [h0, Nat.mul_zero, Nat.zero_add] at hdm; exact hdm
      rw [bk, bk, hv, Nat.zero_mul, Nat.zero_add, h1, Nat.mod_eq_of_lt h64]
    · rename_i h0
      have hk1 : 1 ≤ k := by
        rcases Nat.eq_zero_or_pos k with rfl | h
        · rw [Nat.pow_one] at hn
          exact absurd (Nat.div_eq_of_lt hn) h0
        · exact h
      have hdn : n / B < B ^ k := by
        rw [Nat.div_lt_iff_lt_mul (by omega), ← Nat.pow_succ]
        exact hn
      have hle : n / B ≤ n := Nat.div_le_self _ _
      rw [bk_snoc, ih (n / B) hdn hk1 (by omega), hv, Nat.mul_comm, hdm, Nat.mod_eq_of_lt h64]

/-! ### the three formats -/
/-- A format that is one conversion makes of one word what the conversion tells of it. -/
theorem format_one (F a t : ByteArray) (x0 x1 x2 n : Int) (ok : Bool) (hF : F.size ≤ 1000) (he : Q.printf_escape.f 8 F = some (⟨#[]⟩, 0)) (h37 : F.data.toList.headD 0 = 37) (hc : Q.printf_conversion.f 20 (F.extract 1 F.size) = some (x0, x1, x2, n, true)) (hn : 1 + n = F.size) (hx : x0 ≠ 37) (h1 : T.printf_spec_told.f 200 x0 x1 x2 a = some (t, ok)) (ht : t.size ≤ 1000000000) (h0 : F.size ≠ 0) (hpos : 0 ≤ n) :
    printf_Format.f F [a] = some (t, if ok = true then 0 else 1) := by
  unfold printf_Format.f
  have hex : F.extract ((1 + n).toNat) F.size = ⟨#[]⟩ := by
    apply ByteArray.ext
    rw [ByteArray.data_extract]
    apply Array.toList_inj.1
    rw [hn, Int.toNat_natCast]
    simp
  have ho : oneF 200 x0 x1 x2 ⟨[], [a], 0, 0⟩ = some ⟨t.data.toList, [], if ok = true then 0 else 1, 1⟩ := by
    unfold oneF
    rw [if_neg hx, show (List.headD [a] (⟨#[]⟩ : ByteArray)) = a from rfl, h1, Option.bind_some, if_pos (by show 0 + t.size ≤ _; omega)]
    dsimp only [List.nil_append, List.tail_cons]
    rw [show wrap64 ((0 : Int) + 1) = 1 from by unfold wrap64; omega]
  have hon : onceF 200 (F.size + 1) F ⟨[], [a], 0, 0⟩ = some (⟨t.data.toList, [], if ok = true then 0 else 1, 1⟩, true) := by
    obtain ⟨k, hk⟩ : ∃ k, F.size = k + 1 := ⟨F.size - 1, by omega⟩
    rw [onceF, if_neg h0, he, Option.bind_some, if_neg (by decide), if_neg (by rw [h37]; decide), hc, Option.bind_some, if_pos rfl, ho, Option.bind_some, if_pos ⟨hpos, by show 1 + n ≤ (F.size : Int); omega⟩, hex, hk, onceF, if_pos (by decide)]
  rw [if_pos (by omega), show ([a] : List ByteArray).length + 2 = 2 + 1 from rfl, formatF, hon, Option.bind_some, if_pos rfl, if_pos (by rfl)]
  rfl

theorem zeros_id (x0 x2 : Int) (a : ByteArray) : T.printf_spec_zeros.f x0 0 x2 a = some a := by
  unfold T.printf_spec_zeros.f
  rw [if_neg (by decide)]
theorem pad_none (a : ByteArray) (ha : a.size ≤ 1000) : strings_Repeat.f (⟨#[32]⟩ : ByteArray) (mx (wrap64 (0 - (a.size : Int))) 0) = some ⟨#[]⟩ := by
  have hm : mx (wrap64 (0 - (a.size : Int))) 0 = 0 := by
    have : wrap64 (0 - (a.size : Int)) = - a.size := by unfold wrap64; omega
    rw [this]
    unfold mx
    split <;> omega
  rw [hm]
  decide +kernel
theorem empty_app (a : ByteArray) : (⟨#[]⟩ : ByteArray) ++ a = a := by
  apply ByteArray.ext
  apply Array.toList_inj.1
  rw [ByteArray.data_append]
  simp
theorem told_num (x0 : Int) (s t : ByteArray) (hx : x0 = 100 ∨ x0 = 120 ∨ x0 = 111) (h : T.printf_spec_numeric.f 199 x0 0 0 s = some (t, true)) (ht : t.size ≤ 1000) : T.printf_spec_told.f 200 x0 0 0 s = some (t, true) := by
  have hj : T.printf_spec_told.j0 200 s true true x0 0 0 = some (t, true) := by
    rw [show (200 : Nat) = 199 + 1 from rfl, T.printf_spec_told.j0, if_pos rfl, h, Option.bind_some, pad_none t ht, Option.bind_some, if_neg (by decide), if_pos (by show 0 + t.size ≤ _; omega), empty_app]
  unfold T.printf_spec_told.f
  rcases hx with rfl | rfl | rfl
  · rw [if_neg (by decide), if_neg (by decide), if_pos rfl]
    exact hj
  · rw [if_neg (by decide), if_neg (by decide), if_neg (by decide), if_pos rfl]
    exact hj
  · rw [if_neg (by decide), if_neg (by decide), if_neg (by decide), if_neg (by decide)]
    exact hj
theorem numeric_d (n : Int) (s : ByteArray) (hp : T.number_Parse.f s = some (n, 0)) (hn : number_Print.f n = some s) : T.printf_spec_numeric.f 199 100 0 0 s = some (s, true) := by
  unfold T.printf_spec_numeric.f
  rw [hp, Option.bind_some, if_pos rfl, show (199 : Nat) = 198 + 1 from rfl, T.printf_spec_numeric.j0, hn, Option.bind_some, if_neg (by decide), if_neg (by decide), zeros_id]
  rfl
theorem numeric_x (n : Int) (s t u : ByteArray) (hp : T.number_Parse.f s = some (n, 0)) (hn : number_Print.f n = some u) (hb : T.printf_based.f 198 (IntKind.u64.wrap n) 4 = some t) : T.printf_spec_numeric.f 199 120 0 0 s = some (t, true) := by
  unfold T.printf_spec_numeric.f
  rw [hp, Option.bind_some, if_pos rfl, show (199 : Nat) = 198 + 1 from rfl, T.printf_spec_numeric.j0, hn, Option.bind_some, if_pos rfl, hb, Option.bind_some, zeros_id]
  rfl
theorem numeric_o (n : Int) (s t u : ByteArray) (hp : T.number_Parse.f s = some (n, 0)) (hn : number_Print.f n = some u) (hb : T.printf_based.f 198 (IntKind.u64.wrap n) 3 = some t) : T.printf_spec_numeric.f 199 111 0 0 s = some (t, true) := by
  unfold T.printf_spec_numeric.f
  rw [hp, Option.bind_some, if_pos rfl, show (199 : Nat) = 198 + 1 from rfl, T.printf_spec_numeric.j0, hn, Option.bind_some, if_neg (by decide), if_pos rfl, hb, Option.bind_some, zeros_id]
  rfl
end Go.Proofs.YtagdkbncfcdhdaaDoor.PurePf

/- Proved: the law NumberPowers over numbers alone: a power more is a factor more, modulo 2 to the 64; for every two ints. -/
import Derived.Test.YtkbeapfcihgjfaaP11
import Derived.Laws.Bits64
import Derived.Lib.RabinKarpLaws
namespace Go.Proofs.Ytkbeapfcihgjfaa.Pure
open Go.RowKit Go.Proofs.Ytkbeapfcihgjfaa.Ext Go.Proofs.Ytkbeapfcihgjfaa.P Go.Proofs.YtkbeapfcihgjfaaW.PrintWords Go.Proofs.YtkbeapfcihgjfaaW.PrintLast

theorem and_one (x : Int) (h : 0 ≤ x) (h2 : x ≤ 9223372036854775807) : Go.bits .and .i64 x 1 = x % 2 := by
  obtain ⟨n, rfl⟩ := Int.eq_ofNat_of_zero_le h
  have := Go.Proofs.and_one n (by omega)
  simpa using this
theorem wrap_congr {m n : Int} (h : m % 18446744073709551616 = n % 18446744073709551616) : wrap64 m = wrap64 n := by
  unfold wrap64
  omega
theorem wrap_mod (m : Int) : wrap64 m % 18446744073709551616 = m % 18446744073709551616 := by
  unfold wrap64
  omega
theorem mul_mod_l (M a b : Int) : ((a % M) * b) % M = (a * b) % M := by
  rw [Int.mul_emod, Int.emod_emod_of_dvd _ (Int.dvd_refl M), ← Int.mul_emod]
theorem mul_mod_r (M a b : Int) : (a * (b % M)) % M = (a * b) % M := by
  rw [Int.mul_comm, mul_mod_l, Int.mul_comm]
theorem pow_mod (M a : Int) (n : Nat) : ((a % M) ^ n) % M = (a ^ n) % M := by
  induction n with
  | zero => simp only [Int.pow_zero]
  | succ n ih =>
    rw [Int.pow_succ, Int.pow_succ, mul_mod_r, ← mul_mod_l, ih, mul_mod_l]

theorem pow_l0 : ∀ (k : Nat) (x1 x6 x7 : Int), 0 ≤ x1 → x1 ≤ 9223372036854775807 → x1.toNat < k →
    number_Power.l0 k x1 x6 x7 = some (wrap64 (x6 * x7 ^ x1.toNat), 0)
  | 0, x1, x6, x7, _, _, h => absurd h (by omega)
  | k + 1, x1, x6, x7, h0, hm, hk => by
    simp only [number_Power.l0]
    by_cases hp : x1 > 0
    · rw [if_pos hp, and_one x1 h0 hm]
      have ih1 := fun a b => pow_l0 k (x1 / 2) a b (by omega) (by omega) (by omega)
      have hpow : x7 ^ x1.toNat = (x7 * x7) ^ (x1 / 2).toNat * (if x1 % 2 = 1 then x7 else 1) := by
        have e : x1.toNat = 2 * (x1 / 2).toNat + (x1 % 2).toNat := by omega
        rw [e, Int.pow_add, Int.pow_mul]
        rw [show x7 ^ 2 = x7 * x7 by rw [Int.pow_succ, Int.pow_succ, Int.pow_zero, Int.one_mul]]
        split
        · rename_i h1
          rw [h1]
          simp [Int.pow_succ]
        · have : x1 % 2 = 0 := by omega
          rw [this]
          simp
      by_cases h1 : x1 % 2 = 1
      · rw [if_pos h1, ih1, hpow, if_pos h1]
        congr 2
        apply wrap_congr
        rw [IntKind.wrap_u64, IntKind.wrap_u64, mul_mod_l, ← mul_mod_r, pow_mod, mul_mod_r, Int.mul_assoc, Int.mul_comm x7]
      · rw [if_neg h1, ih1, hpow, if_neg h1]
        congr 2
        apply wrap_congr
        rw [IntKind.wrap_u64, ← mul_mod_r, pow_mod, mul_mod_r, Int.mul_one]
    · rw [if_neg hp]
      have : x1 = 0 := by omega
      subst this
      simp

theorem small_b (b : Int) : ∃ n : Nat, n ≤ 99 ∧ Int.tmod (wrap64 ((Int.tmod b 100) + 100)) 100 = n := by
  have h1 := Int.tmod_lt_of_pos b (show (0 : Int) < 100 by omega)
  have h2 := Int.lt_tmod_of_pos b (show (0 : Int) < 100 by omega)
  have h3 : wrap64 ((Int.tmod b 100) + 100) = Int.tmod b 100 + 100 := by
    unfold wrap64
    omega
  rw [h3, Int.tmod_eq_emod_of_nonneg (by omega)]
  exact ⟨((Int.tmod b 100 + 100) % 100).toNat, by omega, by omega⟩

theorem alive_ok : cowrielaw04_alive.f = some true := by
  have h1 : number_Literal.f ⟨#[48, 120, 49, 102]⟩ = some (31, 0) := by decide +kernel
  have h2 : number_Literal.f ⟨#[48, 49, 48]⟩ = some (8, 0) := by decide +kernel
  have h3 : number_Print.f (-5) = some ⟨#[45, 53]⟩ := by
    unfold number_Print.f decsInt
    rw [decs]
    rfl
  unfold cowrielaw04_alive.f
  rw [h1, h2, h3]
  decide +kernel

theorem NumberPowers : cowrielaw04_NumberPowers.Pure := by
  intro a b _ _
  obtain ⟨n, hn, e⟩ := small_b b
  refine ⟨102, ?_⟩
  have p : ∀ m : Nat, m ≤ 100 → number_Power.f 102 a (m : Int) = some (wrap64 (a ^ m), 0) := by
    intro m hm
    unfold number_Power.f
    rw [if_neg (by omega), pow_l0 102 m 1 _ (by omega) (by omega) (by omega), Int.one_mul, Int.toNat_natCast]
    congr 2
    apply wrap_congr
    rw [IntKind.wrap_u64, pow_mod]
  have w1 : wrap64 ((n : Int) + 1) = ((n + 1 : Nat) : Int) := by
    unfold wrap64
    omega
  have w2 : wrap64 (-1 - (n : Int)) = -1 - (n : Int) := by
    unfold wrap64
    omega
  have p3 : number_Power.f 102 a (-1 - (n : Int)) = some (0, 4) := by
    unfold number_Power.f
    rw [if_pos (by omega)]
  have fin : wrap64 (a ^ (n + 1)) = wrap64 (wrap64 (a ^ n) * a) := by
    apply wrap_congr
    rw [← mul_mod_l, wrap_mod, mul_mod_l, Int.pow_succ]
  unfold cowrielaw04_NumberPowers.f
  rw [alive_ok, e, w1, w2, p n (by omega), p (n + 1) (by omega), p3]
  simp only [Option.bind_some, if_true, cowrielaw04_num.f]
  rw [if_pos (by decide +kernel), if_pos fin]
  rfl

end Go.Proofs.Ytkbeapfcihgjfaa.Pure

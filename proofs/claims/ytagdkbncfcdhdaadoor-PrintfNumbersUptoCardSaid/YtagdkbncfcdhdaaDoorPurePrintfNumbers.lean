/- Proved: PrintfNumbers' law (as told) answers true for every int. Plain Lean: no program's step. -/
import Derived.Test.YtagdkbncfcdhdaaDoorP63
import Derived.Test.YtagdkbncfcdhdaaDoorPureBased
import Derived.OpenShut
set_option linter.unusedVariables false
namespace Go.Proofs.YtagdkbncfcdhdaaDoor.PurePf
open Go.RowKit Go.Proofs.YtagdkbncfcdhdaaDoor.P Go.Proofs.YtagdkbncfcdhdaaDoor.Ext Go.Proofs.YtagdkbncfcdhdaaDoorW.PrintWords

theorem parse_decs (a : Int) (h : -9223372036854775808 ≤ a ∧ a ≤ 9223372036854775807) : parseL (decsInt a) = (a, 0) := by
  have hb : ∀ n, ∀ x ∈ decs n, ([32, 9] : List UInt8).contains x = false := fun n x hx => blank_digit (decs_digit n x hx)
  unfold parseL decsInt
  split
  · rename_i hn
    rw [trim_id (45 :: decs a.natAbs) [32, 9] (fun x hx => by
      rcases List.mem_cons.1 hx with rfl | hx
      · decide
      · exact hb _ x hx)]
    simp only [signL, if_true]
    rw [decs_read _ (by omega)]
    simp only [decs_ne, if_false]
    have : wrap64 (IntKind.u64.wrap (-((a.natAbs : Nat) : Int))) = a := by
      rw [IntKind.wrap_u64]
      unfold wrap64
      omega
    rw [this]
  · rename_i hn
    rw [trim_id (decs a.natAbs) [32, 9] (hb _)]
    have hs : signL (decs a.natAbs) = (decs a.natAbs, false) := by
      have hd := decs_digit a.natAbs
      cases e : decs a.natAbs with
      | nil => exact absurd e (decs_ne _)
      | cons c l =>
        have hc := hd c (by rw [e]; exact List.mem_cons_self)
        have h1 : c ≠ 45 := by rintro rfl; exact absurd hc.1 (by decide)
        have h2 : c ≠ 43 := by rintro rfl; exact absurd hc.1 (by decide)
        simp only [signL, if_neg h1, if_neg h2]
    rw [hs]
    show (match digitsGo 10 (decs a.natAbs) 0 with | none => _ | some n => _) = _
    rw [decs_read _ (by omega)]
    simp only [decs_ne, if_false]
    have : wrap64 (((a.natAbs : Nat) : Int)) = a := by
      unfold wrap64
      omega
    rw [this]
    simp

theorem decs_len (n : Nat) : ∀ k, n < 10 ^ (k + 1) → (decs n).length ≤ k + 1 := by
  induction n using Nat.strongRecOn with
  | ind n ih =>
    intro k hk
    rw [decs]
    split
    · simp
    · rename_i h
      rw [List.length_append]
      cases k with
      | zero => simp at hk; omega
      | succ k =>
        have := ih (n / 10) (by omega) k (by rw [Nat.pow_succ] at hk; omega)
        simp only [List.length_cons, List.length_nil]
        omega

theorem dig_str : ∀ d : Fin 10, strOfNums [(IntKind.u64.wrap (48 + ((d : Nat) : Int))) % 256] = ⟨#[(48 + (d : Nat)).toUInt8]⟩ := by decide +kernel
theorem digits_decs : ∀ (k n : Nat), n < 10 ^ k → 1 ≤ k → k ≤ 1000 → n < 18446744073709551616 → cowrielaw09_digits.f k (n : Int) = some ⟨(decs n).toArray⟩ := by
  intro k
  induction k with
  | zero => intro n _ h; omega
  | succ k ih =>
    intro n hn _ hk h64
    rw [cowrielaw09_digits.f, decs]
    by_cases h0 : n < 10
    · rw [if_pos (by omega), if_pos h0]
      exact congrArg some (dig_str ⟨n, h0⟩)
    · have hk1 : 1 ≤ k := by
        rcases Nat.eq_zero_or_pos k with rfl | h
        · rw [Nat.pow_one] at hn
          omega
        · exact h
      have hdn : n / 10 < 10 ^ k := by
        rw [Nat.div_lt_iff_lt_mul (by omega), ← Nat.pow_succ]
        exact hn
      have e1 : IntKind.u64.wrap (Int.tdiv (n : Int) 10) = ((n / 10 : Nat) : Int) := by
        rw [IntKind.wrap_u64, Int.tdiv_eq_ediv_of_nonneg (by omega)]
        omega
      have e2 : Int.tmod (n : Int) 10 = ((n % 10 : Nat) : Int) := by
        rw [Int.tmod_eq_emod_of_nonneg (by omega)]
        omega
      have hsz : (⟨(decs (n / 10)).toArray⟩ : ByteArray).size = (decs (n / 10)).length := by simp [ByteArray.size]
      have hl := decs_len (n / 10) 19 (by omega)
      rw [if_neg (by omega), if_neg h0, e1, e2, ih (n / 10) hdn hk1 (by omega) (by omega), Option.bind_some, Option.bind_some]
      rw [show strOfNums _ = (⟨#[(48 + n % 10).toUInt8]⟩ : ByteArray) from dig_str ⟨n % 10, Nat.mod_lt _ (by decide)⟩, if_pos (by rw [hsz]; show _ + 1 ≤ _; omega)]
      congr 1
theorem decsInt_len (a : Int) (h : -9223372036854775808 ≤ a ∧ a ≤ 9223372036854775807) : (decsInt a).length ≤ 21 := by
  have h1 := decs_len a.natAbs 19 (by omega)
  unfold decsInt
  split
  · rw [List.length_cons]; omega
  · omega
theorem text_decs (a : Int) (h : -9223372036854775808 ≤ a ∧ a ≤ 9223372036854775807) : cowrielaw09_text.f 300 a = some ⟨(decsInt a).toArray⟩ := by
  have h1 := decs_len a.natAbs 19 (by omega)
  have hd := digits_decs 300 a.natAbs (Nat.lt_of_lt_of_le (show a.natAbs < 18446744073709551616 by omega) (by decide +kernel)) (by decide) (by decide) (by omega)
  unfold cowrielaw09_text.f decsInt
  split
  · rename_i hn
    rw [show IntKind.u64.wrap (-(IntKind.u64.wrap a)) = ((a.natAbs : Nat) : Int) from by rw [IntKind.wrap_u64, IntKind.wrap_u64]; omega, hd, Option.bind_some]
    have hsz : (⟨(decs a.natAbs).toArray⟩ : ByteArray).size = (decs a.natAbs).length := by simp [ByteArray.size]
    rw [if_pos (by rw [hsz]; omega)]
    congr 1
  · rename_i hn
    rw [show IntKind.u64.wrap a = ((a.natAbs : Nat) : Int) from by rw [IntKind.wrap_u64]; omega, hd]
    rfl
theorem back_bk (x : ByteArray) (B : Nat) (hs : x.size ≤ 1000) : ∀ (d i acc : Nat), d + i = x.size → cowrielaw09_back.l0 (d + 1) x (B : Int) (acc : Int) (i : Int) = some ((bk B (x.data.toList.drop i) acc : Nat) : Int) := by
  intro d
  have hxl : x.size = x.data.toList.length := by simp
  induction d with
  | zero =>
    intro i acc hi
    rw [cowrielaw09_back.l0, if_neg (by omega), List.drop_of_length_le (by omega), bk]
  | succ d ih =>
    intro i acc hi
    have hi2 : i < x.size := by omega
    have hiL : i < x.data.toList.length := by omega
    have hbt : bt x ((i : Nat) : Int) = ((x.data.toList[i].toNat : Nat) : Int) := by
      rw [← bt_at x i (by rw [Int.toNat_natCast]; exact hi2)]
      simp
      rfl
    have hc : x.data.toList[i].toNat < 256 := x.data.toList[i].toNat_lt
    rw [List.drop_eq_getElem_cons hiL, bk]
    rw [cowrielaw09_back.l0, if_pos (by omega), if_pos (by omega), hbt, show wrap64 (((i : Nat) : Int) + 1) = ((i + 1 : Nat) : Int) from by unfold wrap64; omega, ← Int.natCast_mul]
    generalize acc * B = q
    generalize x.data.toList[i] = c at hc ⊢
    unfold dv
    by_cases h97 : 97 ≤ c.toNat
    · rw [if_pos (by omega), if_pos h97]
      rw [show IntKind.u64.wrap (IntKind.u64.wrap (q : Int) + (((c.toNat : Int) - 97) % 256 + 10)) = (((q + (c.toNat - 97 + 10)) % 18446744073709551616 : Nat) : Int) from by rw [IntKind.wrap_u64, IntKind.wrap_u64]; omega]
      exact ih (i + 1) _ (by omega)
    · rw [if_neg (by omega), if_neg h97]
      rw [show IntKind.u64.wrap (IntKind.u64.wrap (q : Int) + (((c.toNat : Int) - 48) % 256)) = (((q + (c.toNat + 256 - 48) % 256) % 18446744073709551616 : Nat) : Int) from by rw [IntKind.wrap_u64, IntKind.wrap_u64]; omega]
      exact ih (i + 1) _ (by omega)
theorem LeO_run {α : Type} {a b : Option α} {r : α} (h : LeO a b) (e : a = some r) : b = some r := h r e
theorem back_mono (a0 : ByteArray) (a1 : Int) (r : Int) : ∀ (d k : Nat), cowrielaw09_back.f k a0 a1 = some r → cowrielaw09_back.f (k + d) a0 a1 = some r
  | 0, k, h => h
  | d + 1, k, h => cowrielaw09_back.mono a0 a1 (k + d) r (back_mono a0 a1 r d k h)
theorem back_base (b : Nat) (hb : b = 3 ∨ b = 4) (m : Nat) (h64 : m < 18446744073709551616) (h : m < (2 ^ b) ^ 198) : cowrielaw09_back.f 300 ⟨(bh (2 ^ b) 198 m).toArray⟩ ((2 ^ b : Nat) : Int) = some (m : Int) := by
  have hl := bh_len (2 ^ b) 198 m
  have hsz : (⟨(bh (2 ^ b) 198 m).toArray⟩ : ByteArray).size = (bh (2 ^ b) 198 m).length := by simp [ByteArray.size]
  have hp : 2 ^ b = 8 ∨ 2 ^ b = 16 := by rcases hb with rfl | rfl; exact .inl rfl; exact .inr rfl
  have h1 := back_bk ⟨(bh (2 ^ b) 198 m).toArray⟩ (2 ^ b) (by omega) (bh (2 ^ b) 198 m).length 0 0 (by omega)
  rw [List.drop_zero, show (⟨(bh (2 ^ b) 198 m).toArray⟩ : ByteArray).data.toList = bh (2 ^ b) 198 m from rfl, bk_bh (2 ^ b) (by omega) 198 m h (by decide) h64] at h1
  have h2 := back_mono ⟨(bh (2 ^ b) 198 m).toArray⟩ ((2 ^ b : Nat) : Int) m (300 - ((bh (2 ^ b) 198 m).length + 1)) ((bh (2 ^ b) 198 m).length + 1) h1
  rw [show (bh (2 ^ b) 198 m).length + 1 + (300 - ((bh (2 ^ b) 198 m).length + 1)) = 300 by omega] at h2
  exact h2
theorem PrintfNumbersU (a0 : Int) (hb : -9223372036854775808 ≤ a0 ∧ a0 ≤ 9223372036854775807) : ∃ k, cowrielaw09_PrintfNumbers.f k a0 = some true := by
  refine ⟨300, ?_⟩
  have hdl := decsInt_len a0 hb
  have hsz : (⟨(decsInt a0).toArray⟩ : ByteArray).size = (decsInt a0).length := by simp [ByteArray.size]
  have hparse : T.number_Parse.f ⟨(decsInt a0).toArray⟩ = some (a0, 0) := by
    rw [parse_spec _ (by omega)]
    show some (parseL (decsInt a0)) = _
    rw [parse_decs a0 hb]
  have hprint : number_Print.f a0 = some ⟨(decsInt a0).toArray⟩ := by
    unfold number_Print.f
    rw [if_pos hb]
  obtain ⟨m, hm⟩ : ∃ m : Nat, IntKind.u64.wrap a0 = (m : Int) := ⟨(IntKind.u64.wrap a0).toNat, by rw [IntKind.wrap_u64]; omega⟩
  have hm64 : m < 18446744073709551616 := by rw [IntKind.wrap_u64] at hm; omega
  have hp3 : m < (2 ^ 3) ^ 198 := Nat.lt_of_lt_of_le hm64 (by decide +kernel)
  have hp4 : m < (2 ^ 4) ^ 198 := Nat.lt_of_lt_of_le hm64 (by decide +kernel)
  have b3 := based 3 (.inl rfl) 198 m hp3 (by decide) (by decide) hm64
  have b4 := based 4 (.inr rfl) 198 m hp4 (by decide) (by decide) hm64
  have l3 := bh_len (2 ^ 3) 198 m
  have l4 := bh_len (2 ^ 4) 198 m
  have s3 : (⟨(bh (2 ^ 3) 198 m).toArray⟩ : ByteArray).size = (bh (2 ^ 3) 198 m).length := by simp [ByteArray.size]
  have s4 : (⟨(bh (2 ^ 4) 198 m).toArray⟩ : ByteArray).size = (bh (2 ^ 4) 198 m).length := by simp [ByteArray.size]
  have fd : printf_Format.f ⟨#[37, 100]⟩ [⟨(decsInt a0).toArray⟩] = some (⟨(decsInt a0).toArray⟩, 0) :=
    format_one _ _ _ 100 0 0 1 true (by decide) (by decide +kernel) (by decide) (by decide +kernel) (by decide) (by decide) (told_num 100 _ _ (.inl rfl) (numeric_d a0 _ hparse hprint) (by omega)) (by omega) (by decide) (by decide)
  have fx : printf_Format.f ⟨#[37, 120]⟩ [⟨(decsInt a0).toArray⟩] = some (⟨(bh (2 ^ 4) 198 m).toArray⟩, 0) :=
    format_one _ _ _ 120 0 0 1 true (by decide) (by decide +kernel) (by decide) (by decide +kernel) (by decide) (by decide) (told_num 120 _ _ (.inr (.inl rfl)) (numeric_x a0 _ _ _ hparse hprint (by rw [hm]; exact b4)) (by omega)) (by omega) (by decide) (by decide)
  have fo : printf_Format.f ⟨#[37, 111]⟩ [⟨(decsInt a0).toArray⟩] = some (⟨(bh (2 ^ 3) 198 m).toArray⟩, 0) :=
    format_one _ _ _ 111 0 0 1 true (by decide) (by decide +kernel) (by decide) (by decide +kernel) (by decide) (by decide) (told_num 111 _ _ (.inr (.inr rfl)) (numeric_o a0 _ _ _ hparse hprint (by rw [hm]; exact b3)) (by omega)) (by omega) (by decide) (by decide)
  unfold cowrielaw09_PrintfNumbers.f
  rw [alive_ok, Option.bind_some, if_pos rfl, text_decs a0 hb, Option.bind_some, fd, Option.bind_some, fx, Option.bind_some, fo, Option.bind_some]
  rw [if_pos (show wrap64 (wrap64 ((0 : Int) + 0) + 0) = 0 by unfold wrap64; omega), if_pos rfl, hm]
  rw [show cowrielaw09_back.f 300 _ 16 = some (m : Int) from back_base 4 (.inr rfl) m hm64 hp4, Option.bind_some, if_pos rfl]
  rw [show cowrielaw09_back.f 300 _ 8 = some (m : Int) from back_base 3 (.inl rfl) m hm64 hp3, Option.bind_some]
  simp
end Go.Proofs.YtagdkbncfcdhdaaDoor.PurePf

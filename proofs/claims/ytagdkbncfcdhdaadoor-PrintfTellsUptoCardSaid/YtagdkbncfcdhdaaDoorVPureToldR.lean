/- Proved: what the document's told (cowrieref09.told) tells of a word by a conversion is what the program's tells. Plain Lean: no program's step. -/
import Derived.Test.YtagdkbncfcdhdaaDoorVR2
import Derived.Test.YtagdkbncfcdhdaaDoorVPureParseR
set_option linter.unusedVariables false
namespace Go.Proofs.YtagdkbncfcdhdaaDoor.PureT
open Go.RowKit Go.Proofs.YtagdkbncfcdhdaaDoor.Ext Go.Proofs.YtagdkbncfcdhdaaDoorW.PrintWords
/-- So many of an octet. -/
def pads (c : UInt8) (n : Nat) : ByteArray := ⟨(Lib.repeatL [c] n).toArray⟩
theorem pads_size (c : UInt8) (n : Nat) : (pads c n).size = n := by
  show (Lib.repeatL [c] n).toArray.size = n
  rw [List.size_toArray, Lib.repeatL_length]
  simp
theorem rep_snoc (c : UInt8) : ∀ n, Lib.repeatL [c] (n + 1) = Lib.repeatL [c] n ++ [c]
  | 0 => rfl
  | n + 1 => by
    show [c] ++ Lib.repeatL [c] (n + 1) = ([c] ++ Lib.repeatL [c] n) ++ [c]
    rw [rep_snoc c n, List.append_assoc]
theorem pads_cons (c : UInt8) (n : Nat) (x : ByteArray) : pads c n ++ ((⟨#[c]⟩ : ByteArray) ++ x) = pads c (n + 1) ++ x := by
  apply ba_ext'
  unfold pads
  simp only [ByteArray.data_append, Array.toList_append]
  rw [rep_snoc]
  simp
theorem cons_pads (c : UInt8) (n : Nat) (x : ByteArray) : (x ++ (⟨#[c]⟩ : ByteArray)) ++ pads c n = x ++ pads c (n + 1) := by
  apply ba_ext'
  unfold pads
  simp only [ByteArray.data_append, Array.toList_append]
  rw [Lib.repeatL]
  simp
theorem pads_zero (c : UInt8) (x : ByteArray) : pads c 0 ++ x = x := by
  apply ba_ext'
  unfold pads
  simp [Lib.repeatL]
theorem zero_pads (c : UInt8) (x : ByteArray) : x ++ pads c 0 = x := by
  apply ba_ext'
  unfold pads
  simp [Lib.repeatL]
theorem rep_pads (c : UInt8) (n : Nat) (h : n ≤ 1000) : strings_Repeat.f (⟨#[c]⟩ : ByteArray) (n : Int) = some (pads c n) := by
  unfold strings_Repeat.f
  rw [if_pos ⟨by omega, by omega, by show 1 * (n : Int).toNat ≤ _; omega⟩]
  rfl
theorem wsum (a b : Nat) (ha : a ≤ 1000000000) (hb : b ≤ 1000000000) : wrap64 ((a : Int) + (b : Int)) = ((a + b : Nat) : Int) := by unfold wrap64; omega
theorem one_size (c : UInt8) : (⟨#[c]⟩ : ByteArray).size = 1 := rfl
theorem loop_left (l sz : Int) (x5 z : Bool) (x6 : ByteArray) (wd : Nat) (h6 : x6.size ≤ 1000000) (hw : wd ≤ 1000) : ∀ (p : Nat) (x1 : ByteArray), x1.size ≤ 200000000 → p = wd - (x6.size + x1.size) → ∀ k, p + 1 ≤ k → R.cowrieref09_wide.l0 k x1 x5 x6 l true z wd sz = some (x6 ++ (x1 ++ pads 32 p)) := by
  intro p
  induction p with
  | zero =>
    intro x1 h1 hp k hk
    obtain ⟨k, rfl⟩ : ∃ m, k = m + 1 := ⟨k - 1, by omega⟩
    rw [R.cowrieref09_wide.l0, wsum _ _ (by omega) (by omega), if_neg (by omega), if_pos (by omega), zero_pads]
  | succ p ih =>
    intro x1 h1 hp k hk
    obtain ⟨k, rfl⟩ : ∃ m, k = m + 1 := ⟨k - 1, by omega⟩
    have hs : (x1 ++ (⟨#[32]⟩ : ByteArray)).size = x1.size + 1 := by rw [ByteArray.size_append, one_size]
    rw [R.cowrieref09_wide.l0, wsum _ _ (by omega) (by omega), if_pos (by omega), if_pos rfl, if_pos (by omega), ih (x1 ++ (⟨#[32]⟩ : ByteArray)) (by omega) (by omega) k (by omega), cons_pads]
theorem loop_zero (l sz : Int) (x6 : ByteArray) (wd : Nat) (h6 : x6.size ≤ 1000000) (hw : wd ≤ 1000) : ∀ (p : Nat) (x1 : ByteArray), x1.size ≤ 200000000 → p = wd - (x6.size + x1.size) → ∀ k, p + 1 ≤ k → R.cowrieref09_wide.l0 k x1 true x6 l false true wd sz = some (x6 ++ (pads 48 p ++ x1)) := by
  intro p
  induction p with
  | zero =>
    intro x1 h1 hp k hk
    obtain ⟨k, rfl⟩ : ∃ m, k = m + 1 := ⟨k - 1, by omega⟩
    rw [R.cowrieref09_wide.l0, wsum _ _ (by omega) (by omega), if_neg (by omega), if_pos (by omega), pads_zero]
  | succ p ih =>
    intro x1 h1 hp k hk
    obtain ⟨k, rfl⟩ : ∃ m, k = m + 1 := ⟨k - 1, by omega⟩
    have hs : ((⟨#[48]⟩ : ByteArray) ++ x1).size = 1 + x1.size := by rw [ByteArray.size_append, one_size]
    rw [R.cowrieref09_wide.l0, wsum _ _ (by omega) (by omega), if_pos (by omega), if_neg (by decide), if_pos rfl, if_pos rfl, if_pos (by omega), ih ((⟨#[48]⟩ : ByteArray) ++ x1) (by omega) (by omega) k (by omega), pads_cons]
theorem loop_blank (l sz : Int) (x5 z : Bool) (hz : ¬ (z = true ∧ x5 = true)) (x6 : ByteArray) (wd : Nat) (h6 : x6.size ≤ 1000000) (hw : wd ≤ 1000) : ∀ (p : Nat) (x1 : ByteArray), x1.size ≤ 200000000 → p = wd - (x6.size + x1.size) → ∀ k, p + 1 ≤ k → R.cowrieref09_wide.l0 k x1 x5 x6 l false z wd sz = some (x6 ++ (pads 32 p ++ x1)) := by
  intro p
  induction p with
  | zero =>
    intro x1 h1 hp k hk
    obtain ⟨k, rfl⟩ : ∃ m, k = m + 1 := ⟨k - 1, by omega⟩
    rw [R.cowrieref09_wide.l0, wsum _ _ (by omega) (by omega), if_neg (by omega), if_pos (by omega), pads_zero]
  | succ p ih =>
    intro x1 h1 hp k hk
    obtain ⟨k, rfl⟩ : ∃ m, k = m + 1 := ⟨k - 1, by omega⟩
    have hs : ((⟨#[32]⟩ : ByteArray) ++ x1).size = 1 + x1.size := by rw [ByteArray.size_append, one_size]
    have hi := ih ((⟨#[32]⟩ : ByteArray) ++ x1) (by omega) (by omega) k (by omega)
    rw [pads_cons] at hi
    rw [R.cowrieref09_wide.l0, wsum _ _ (by omega) (by omega), if_pos (by omega), if_neg (by decide)]
    cases z with
    | false => rw [if_neg (by decide), if_pos (by omega), hi]
    | true =>
      cases x5 with
      | true => exact absurd ⟨rfl, rfl⟩ hz
      | false => rw [if_pos rfl, if_neg (by decide), if_pos (by omega), hi]
def isNum (l : Int) : Bool := l == 100 || l == 120 || l == 111
theorem wide_j0 (k : Nat) (l sz wd : Int) (left z : Bool) (s : ByteArray) : R.cowrieref09_wide.f k l left z wd sz s = R.cowrieref09_wide.j0 k s (isNum l) l left z wd sz := by
  unfold R.cowrieref09_wide.f isNum
  by_cases h1 : l = 100
  · rw [if_pos h1, beq_iff_eq.2 h1]; rfl
  · rw [if_neg h1, beq_eq_false_iff_ne.2 h1]
    by_cases h2 : l = 120
    · rw [if_pos h2, beq_iff_eq.2 h2]; rfl
    · rw [if_neg h2, beq_eq_false_iff_ne.2 h2]; rfl
/-- Blanks behind, if they are asked for. -/
theorem wide_left (l sz : Int) (s : ByteArray) (wd : Nat) (hw : wd ≤ 1000) (hs : s.size ≤ 200000000) (k : Nat) (hk : wd + 5 ≤ k) : R.cowrieref09_wide.f k l true false wd sz s = some (s ++ pads 32 (wd - s.size)) := by
  obtain ⟨k, rfl⟩ : ∃ m, k = m + 1 + 1 + 1 := ⟨k - 3, by omega⟩
  rw [wide_j0, R.cowrieref09_wide.j0, if_neg (by decide), R.cowrieref09_wide.j1, if_neg (by decide), R.cowrieref09_wide.j2, loop_left l sz _ false ⟨#[]⟩ wd (by decide) hw (wd - s.size) s hs (by show _ = wd - (0 + s.size); omega) k (by omega)]
  congr 1
/-- Blanks ahead: no zeros are asked for, or it is no number. -/
theorem wide_blank (l sz : Int) (z : Bool) (hz : ¬ (z = true ∧ isNum l = true)) (s : ByteArray) (wd : Nat) (hw : wd ≤ 1000) (hs : s.size ≤ 200000000) (k : Nat) (hk : wd + 5 ≤ k) : R.cowrieref09_wide.f k l false z wd sz s = some (pads 32 (wd - s.size) ++ s) := by
  obtain ⟨k, rfl⟩ : ∃ m, k = m + 1 + 1 + 1 := ⟨k - 3, by omega⟩
  have hl := loop_blank l sz (isNum l) z hz ⟨#[]⟩ wd (by decide) hw (wd - s.size) s hs (by show _ = wd - (0 + s.size); omega) k (by omega)
  have he : (⟨#[]⟩ : ByteArray) ++ (pads 32 (wd - s.size) ++ s) = pads 32 (wd - s.size) ++ s := by
    apply ba_ext'
    simp
  rw [he] at hl
  have hj : R.cowrieref09_wide.j1 (k + 1 + 1) s (isNum l) ⟨#[]⟩ false l false z wd sz = some (pads 32 (wd - s.size) ++ s) := by
    rw [R.cowrieref09_wide.j1, if_neg (by decide), R.cowrieref09_wide.j2, hl]
  rw [wide_j0, R.cowrieref09_wide.j0]
  cases z with
  | false => rw [if_neg (by decide), hj]
  | true =>
    cases hn : isNum l with
    | true => exact absurd ⟨rfl, hn⟩ hz
    | false =>
      rw [hn] at hj
      rw [if_pos rfl, if_neg (by decide), hj]
/-- Zeros behind a minus. -/
theorem wide_zero_neg (l sz : Int) (hn : isNum l = true) (s : ByteArray) (t : List UInt8) (h : s.data.toList = 45 :: t) (wd : Nat) (hw : wd ≤ 1000) (hs : s.size ≤ 200000000) (k : Nat) (hk : wd + 5 ≤ k) : R.cowrieref09_wide.f k l false true wd sz s = some ((⟨#[45]⟩ : ByteArray) ++ (pads 48 (wd - s.size) ++ s.extract 1 s.size)) := by
  obtain ⟨k, rfl⟩ : ∃ m, k = m + 1 + 1 + 1 := ⟨k - 3, by omega⟩
  have hss : s.size = t.length + 1 := by rw [PurePf.ba_size, h, List.length_cons]
  have hes : (s.extract 1 s.size).size = t.length := by rw [PurePf.ba_size, PurePf.tail_list s 45 t h]
  have hb : bt s 0 = 45 := by
    have hi : 0 < s.data.toList.length := by rw [h]; simp
    have := (bt_is s 0 hi 45).2 (by simp [h])
    exact this
  have g1 : (s.size : Int) > 0 := by omega
  have g2 : (0 : Int) < (s.size : Int) := by omega
  have g3 : (1 : Int) ≤ (s.size : Int) := by omega
  rw [wide_j0, hn, R.cowrieref09_wide.j0, if_pos rfl, if_pos rfl, if_pos g1, if_pos g2, hb, R.cowrieref09_wide.j1, if_pos (by decide), if_pos g3, R.cowrieref09_wide.j2, loop_zero l sz ⟨#[45]⟩ wd (by decide) hw (wd - s.size) (s.extract 1 s.size) (by omega) (by rw [one_size, hes]; omega) k (by omega)]
/-- Zeros ahead. -/
theorem wide_zero_pos (l sz : Int) (hn : isNum l = true) (s : ByteArray) (h : s.data.toList.head? ≠ some 45) (wd : Nat) (hw : wd ≤ 1000) (hs : s.size ≤ 200000000) (k : Nat) (hk : wd + 5 ≤ k) : R.cowrieref09_wide.f k l false true wd sz s = some (pads 48 (wd - s.size) ++ s) := by
  obtain ⟨k, rfl⟩ : ∃ m, k = m + 1 + 1 + 1 := ⟨k - 3, by omega⟩
  have hj : R.cowrieref09_wide.j1 (k + 1 + 1) s true ⟨#[]⟩ false l false true wd sz = some (pads 48 (wd - s.size) ++ s) := by
    rw [R.cowrieref09_wide.j1, if_neg (by decide), R.cowrieref09_wide.j2, loop_zero l sz ⟨#[]⟩ wd (by decide) hw (wd - s.size) s hs (by show _ = wd - (0 + s.size); omega) k (by omega)]
    congr 1
  rw [wide_j0, hn, R.cowrieref09_wide.j0, if_pos rfl, if_pos rfl]
  by_cases h0 : s.size = 0
  · rw [if_neg (by omega), hj]
  · have hi : 0 < s.data.toList.length := by rw [← PurePf.ba_size]; omega
    have hb : ¬ bt s 0 = 45 := by
      intro e
      have := (bt_is s 0 hi 45).1 e
      apply h
      rw [List.head?_eq_getElem?, List.getElem?_eq_getElem hi, this]
    rw [if_pos (by omega), if_pos (by omega), beq_eq_false_iff_ne.2 hb, hj]
theorem mxw (wd a : Nat) (hw : wd ≤ 1000) (ha : a ≤ 1000000000) : mx (wrap64 ((wd : Int) - (a : Int))) 0 = ((wd - a : Nat) : Int) := by
  have : wrap64 ((wd : Int) - a) = (wd : Int) - a := by unfold wrap64; omega
  rw [this]
  unfold mx
  split <;> omega
/-- A text with its blanks. -/
def padded (fl : Int) (wd : Nat) (t : ByteArray) : ByteArray := if fl = 45 then t ++ pads 32 (wd - t.size) else pads 32 (wd - t.size) ++ t
theorem padded_size (fl : Int) (wd : Nat) (t : ByteArray) : (padded fl wd t).size = t.size + (wd - t.size) := by
  unfold padded
  split
  · rw [ByteArray.size_append, pads_size]
  · rw [ByteArray.size_append, pads_size]; omega
theorem t_pad (fl : Int) (wd : Nat) (hw : wd ≤ 1000) (t : ByteArray) (ht : t.size ≤ 200000000) (ok : Bool) :
    ((strings_Repeat.f (⟨#[32]⟩ : ByteArray) (mx (wrap64 ((wd : Int) - (t.size : Int))) 0)).bind fun t150 => (if fl = 45 then (if t.size + t150.size ≤ 9223372036854775807 then (some (t ++ t150, ok)) else (none)) else (if t150.size + t.size ≤ 9223372036854775807 then (some (t150 ++ t, ok)) else (none)))) = some (padded fl wd t, ok) := by
  rw [mxw wd t.size hw (by omega), rep_pads 32 _ (by omega), Option.bind_some]
  unfold padded
  have hp := pads_size 32 (wd - t.size)
  by_cases h : fl = 45
  · rw [if_pos h, if_pos h, if_pos (by omega)]
  · rw [if_neg h, if_neg h, if_pos (by omega)]
theorem r_pad (l sz fl : Int) (wd : Nat) (hw : wd ≤ 1000) (t : ByteArray) (ht : t.size ≤ 200000000) (hz : ¬ (fl = 48 ∧ isNum l = true)) (k : Nat) (hk : wd + 5 ≤ k) : R.cowrieref09_wide.f k l (fl == 45) (fl == 48) wd sz t = some (padded fl wd t) := by
  unfold padded
  by_cases h : fl = 45
  · subst h
    rw [if_pos rfl]
    exact wide_left l sz t wd hw ht k hk
  · rw [if_neg h, beq_eq_false_iff_ne.2 h]
    exact wide_blank l sz _ (fun e => hz ⟨beq_iff_eq.1 e.1, e.2⟩) t wd hw ht k hk
/-- A number's text with its zeros and blanks. -/
theorem zeros_ref (l sz fl : Int) (hn : isNum l = true) (hf : fl = 0 ∨ fl = 45 ∨ fl = 48) (wd : Nat) (hw : wd ≤ 1000) (t : ByteArray) (ht : t.size ≤ 1000) : ∃ u, T.printf_spec_zeros.f l fl wd t = some u ∧ u.size ≤ 2000 ∧ ∀ k, wd + 5 ≤ k → R.cowrieref09_wide.f k l (fl == 45) (fl == 48) wd sz t = some (padded fl wd u) := by
  unfold T.printf_spec_zeros.f
  by_cases h48 : fl = 48
  · subst h48
    have hp := pads_size 48 (wd - t.size)
    rw [if_pos rfl, cut_one_pre, Option.bind_some, mxw wd t.size hw (by omega), rep_pads 48 _ (by omega), Option.bind_some]
    have hpd : ∀ u : ByteArray, wd ≤ u.size → padded 48 wd u = u := by
      intro u hu
      unfold padded
      rw [if_neg (by decide), show wd - u.size = 0 by omega, pads_zero]
    by_cases hh : t.data.toList.head? = some 45
    · obtain ⟨tl, htl⟩ : ∃ tl, t.data.toList = 45 :: tl := by
        cases e : t.data.toList with
        | nil => rw [e] at hh; cases hh
        | cons c tl =>
          rw [e] at hh
          obtain rfl := Option.some.inj hh
          exact ⟨tl, rfl⟩
      have hts : t.size = tl.length + 1 := by rw [PurePf.ba_size, htl, List.length_cons]
      have hes : (t.extract 1 t.size).size = tl.length := by rw [PurePf.ba_size, PurePf.tail_list t 45 tl htl]
      have hus : ((⟨#[45]⟩ : ByteArray) ++ (pads 48 (wd - t.size) ++ t.extract 1 t.size)).size = 1 + ((wd - t.size) + tl.length) := by rw [ByteArray.size_append, ByteArray.size_append, one_size, hp, hes]
      rw [if_pos hh]
      dsimp only
      rw [if_pos (by rw [hp, hes]; omega), if_pos rfl, if_pos (by rw [ByteArray.size_append, hp, hes]; omega)]
      refine ⟨_, rfl, by rw [hus]; omega, fun k hk => ?_⟩
      rw [hpd _ (by rw [hus]; omega)]
      exact wide_zero_neg l sz hn t tl htl wd hw (by omega) k hk
    · have hus : (pads 48 (wd - t.size) ++ t).size = (wd - t.size) + t.size := by rw [ByteArray.size_append, hp]
      rw [if_neg hh]
      dsimp only
      rw [if_pos (by rw [hp]; omega), if_neg (by decide)]
      refine ⟨_, rfl, by rw [hus]; omega, fun k hk => ?_⟩
      rw [hpd _ (by rw [hus]; omega)]
      exact wide_zero_pos l sz hn t hh wd hw (by omega) k hk
  · rw [if_neg h48]
    exact ⟨t, rfl, by omega, fun k hk => r_pad l sz fl wd hw t (by omega) (fun e => h48 e.1) k hk⟩
theorem wrap_range (x : Int) : -9223372036854775808 ≤ wrap64 x ∧ wrap64 x ≤ 9223372036854775807 := by unfold wrap64; omega
theorem parse_range (l : List UInt8) : -9223372036854775808 ≤ (parseL l).1 ∧ (parseL l).1 ≤ 9223372036854775807 := by
  unfold parseL
  dsimp only
  split
  · exact ⟨by decide, by decide⟩
  · split
    · exact ⟨by decide, by decide⟩
    · split <;> exact wrap_range _
theorem num_ref (l sz fl : Int) (hl : l = 100 ∨ l = 120 ∨ l = 111) (hf : fl = 0 ∨ fl = 45 ∨ fl = 48) (wd : Nat) (hw : wd ≤ 1000) (n : Int) (hn : -9223372036854775808 ≤ n ∧ n ≤ 9223372036854775807) :
    ∃ u, u.size ≤ 2000 ∧ (∀ ok, T.printf_spec_numeric.j0 199 n ok l fl wd = some (u, ok)) ∧ (∀ k x6, 1100 ≤ k → R.cowrieref09_told.j2 k x6 n l (fl == 45) (fl == 48) wd sz = some (padded fl wd u, x6)) := by
  have hnum : isNum l = true := by rcases hl with rfl | rfl | rfl <;> rfl
  obtain ⟨m, hm⟩ : ∃ m : Nat, IntKind.u64.wrap n = (m : Int) := ⟨(IntKind.u64.wrap n).toNat, by rw [IntKind.wrap_u64]; omega⟩
  have hm64 : m < 18446744073709551616 := by rw [IntKind.wrap_u64] at hm; omega
  have hp3 : m < (2 ^ 3) ^ 198 := Nat.lt_of_lt_of_le hm64 (by decide +kernel)
  have hp4 : m < (2 ^ 4) ^ 198 := Nat.lt_of_lt_of_le hm64 (by decide +kernel)
  have b3 := PurePf.based 3 (.inl rfl) 198 m hp3 (by decide) (by decide) hm64
  have b4 := PurePf.based 4 (.inr rfl) 198 m hp4 (by decide) (by decide) hm64
  have r3 : ∀ k, 198 ≤ k → R.cowrieref09_based.f k (m : Int) 8 = some ⟨(PurePf.bh (2 ^ 3) 198 m).toArray⟩ := fun k hk => based_ref 8 ⟨by decide, by decide⟩ 198 k m hp3 (by decide) hk (by decide) hm64
  have r4 : ∀ k, 198 ≤ k → R.cowrieref09_based.f k (m : Int) 16 = some ⟨(PurePf.bh (2 ^ 4) 198 m).toArray⟩ := fun k hk => based_ref 16 ⟨by decide, by decide⟩ 198 k m hp4 (by decide) hk (by decide) hm64
  have l3 := PurePf.bh_len (2 ^ 3) 198 m
  have l4 := PurePf.bh_len (2 ^ 4) 198 m
  have s3 : (⟨(PurePf.bh (2 ^ 3) 198 m).toArray⟩ : ByteArray).size ≤ 1000 := by
    have : (⟨(PurePf.bh (2 ^ 3) 198 m).toArray⟩ : ByteArray).size = (PurePf.bh (2 ^ 3) 198 m).length := by simp [ByteArray.size]
    omega
  have s4 : (⟨(PurePf.bh (2 ^ 4) 198 m).toArray⟩ : ByteArray).size ≤ 1000 := by
    have : (⟨(PurePf.bh (2 ^ 4) 198 m).toArray⟩ : ByteArray).size = (PurePf.bh (2 ^ 4) 198 m).length := by simp [ByteArray.size]
    omega
  have sd : (⟨(decsInt n).toArray⟩ : ByteArray).size ≤ 1000 := by
    have h1 := decs_len n.natAbs 19 (by omega)
    have h2 : (decsInt n).length ≤ 21 := by
      unfold decsInt
      split
      · rw [List.length_cons]; omega
      · omega
    have : (⟨(decsInt n).toArray⟩ : ByteArray).size = (decsInt n).length := by simp [ByteArray.size]
    omega
  have hpr : number_Print.f n = some ⟨(decsInt n).toArray⟩ := by
    unfold number_Print.f
    rw [if_pos hn]
  rcases hl with rfl | rfl | rfl
  · obtain ⟨u, hu, hus, hr⟩ := zeros_ref 100 sz fl hnum hf wd hw _ sd
    refine ⟨u, hus, fun ok => ?_, fun k x6 hk => ?_⟩
    · rw [show (199 : Nat) = 198 + 1 from rfl, T.printf_spec_numeric.j0, hpr, Option.bind_some, if_neg (by decide), if_neg (by decide), hu]
      rfl
    · obtain ⟨k, rfl⟩ : ∃ m, k = m + 1 + 1 := ⟨k - 2, by omega⟩
      rw [R.cowrieref09_told.j2, print_ref n hn _ (by omega), Option.bind_some, if_neg (by decide), R.cowrieref09_told.j3, if_neg (by decide), hr k (by omega)]
      rfl
  · obtain ⟨u, hu, hus, hr⟩ := zeros_ref 120 sz fl hnum hf wd hw _ s4
    refine ⟨u, hus, fun ok => ?_, fun k x6 hk => ?_⟩
    · rw [show (199 : Nat) = 198 + 1 from rfl, T.printf_spec_numeric.j0, hpr, Option.bind_some, if_pos rfl, hm, show T.printf_based.f 198 (m : Int) 4 = _ from b4, Option.bind_some, hu]
      rfl
    · obtain ⟨k, rfl⟩ : ∃ m, k = m + 1 + 1 := ⟨k - 2, by omega⟩
      rw [R.cowrieref09_told.j2, print_ref n hn _ (by omega), Option.bind_some, if_pos rfl, hm, r4 _ (by omega), Option.bind_some, R.cowrieref09_told.j3, if_neg (by decide), hr k (by omega)]
      rfl
  · obtain ⟨u, hu, hus, hr⟩ := zeros_ref 111 sz fl hnum hf wd hw _ s3
    refine ⟨u, hus, fun ok => ?_, fun k x6 hk => ?_⟩
    · rw [show (199 : Nat) = 198 + 1 from rfl, T.printf_spec_numeric.j0, hpr, Option.bind_some, if_neg (by decide), if_pos rfl, hm, show T.printf_based.f 198 (m : Int) 3 = _ from b3, Option.bind_some, hu]
      rfl
    · obtain ⟨k, rfl⟩ : ∃ m, k = m + 1 + 1 := ⟨k - 2, by omega⟩
      rw [R.cowrieref09_told.j2, print_ref n hn _ (by omega), Option.bind_some, if_neg (by decide), R.cowrieref09_told.j3, if_pos rfl, hm, r3 _ (by omega), Option.bind_some, hr k (by omega)]
      rfl
/-- What a conversion tells of a word, the document's and the program's. -/
theorem told_ref (l sz fl : Int) (hl : l = 115 ∨ l = 98 ∨ l = 99 ∨ l = 100 ∨ l = 120 ∨ l = 111) (hf : fl = 0 ∨ fl = 45 ∨ fl = 48) (wd : Nat) (hw : wd ≤ 1000) (a : ByteArray) (ha : a.size ≤ 10000000) :
    ∃ r ok, T.printf_spec_told.f 200 l fl wd a = some (r, ok) ∧ r.size ≤ a.size + 4000 ∧ ∀ k, 4 * a.size + 1200 ≤ k → R.cowrieref09_told.f k l (fl == 45) (fl == 48) wd sz a = some (r, if ok = true then 0 else 1) := by
  have numCase : (l = 100 ∨ l = 120 ∨ l = 111) → ∃ r ok, T.printf_spec_told.j0 200 a true true l fl wd = some (r, ok) ∧ r.size ≤ a.size + 4000 ∧ ∀ k, 4 * a.size + 1200 ≤ k → R.cowrieref09_told.j0 k a 0 a true l (fl == 45) (fl == 48) wd sz = some (r, if ok = true then 0 else 1) := by
    intro hl3
    have hp := parse_spec a (by omega)
    have hr := parse_range a.data.toList
    have hpr := fun k hk => parse_ref a (by omega) k hk
    generalize parseL a.data.toList = P at hp hr hpr
    obtain ⟨n, e⟩ := P
    dsimp only at hr
    obtain ⟨u, hus, hT, hR⟩ := num_ref l sz fl hl3 hf wd hw n hr
    have key : ∀ ok : Bool, T.printf_spec_numeric.f 199 l fl wd a = some (u, ok) → T.printf_spec_told.j0 200 a true true l fl wd = some (padded fl wd u, ok) := by
      intro ok hk
      rw [show (200 : Nat) = 199 + 1 from rfl, T.printf_spec_told.j0, if_pos rfl, hk, Option.bind_some]
      exact t_pad fl wd hw u (by omega) ok
    have hsz : (padded fl wd u).size ≤ a.size + 4000 := by rw [padded_size]; omega
    have hae : ∀ k, (if a.toList = ([] : List UInt8) then R.cowrieref09_told.j1 k 0 n 0 l (fl == 45) (fl == 48) wd sz else R.cowrieref09_told.j1 k 0 n e l (fl == 45) (fl == 48) wd sz) = R.cowrieref09_told.j1 k 0 n (if a.toList = ([] : List UInt8) then 0 else e) l (fl == 45) (fl == 48) wd sz := by
      intro k
      split <;> rfl
    refine ⟨padded fl wd u, (decide (e = 0) || a.toList == ([] : List UInt8)), key _ ?_, hsz, fun k hk => ?_⟩
    · unfold T.printf_spec_numeric.f
      rw [hp, Option.bind_some]
      dsimp only
      by_cases he : e = 0
      · rw [if_pos he, decide_eq_true he, Bool.true_or]
        exact hT true
      · rw [if_neg he, decide_eq_false he, Bool.false_or]
        exact hT _
    · obtain ⟨k, rfl⟩ : ∃ m, k = m + 1 + 1 := ⟨k - 2, by omega⟩
      rw [R.cowrieref09_told.j0, if_pos rfl, hpr _ (by omega), Option.bind_some]
      dsimp only
      rw [hae, R.cowrieref09_told.j1]
      by_cases hem : a.toList = ([] : List UInt8)
      · rw [if_pos hem, if_pos rfl, hR k 0 (by omega), beq_iff_eq.2 hem, Bool.or_true, if_pos rfl]
      · rw [if_neg hem, beq_eq_false_iff_ne.2 hem, Bool.or_false]
        by_cases he : e = 0
        · rw [if_pos he, hR k 0 (by omega), decide_eq_true he, if_pos rfl]
        · rw [if_neg he, hR k 1 (by omega), decide_eq_false he, if_neg (by decide)]
  have hkn : ∀ k, 4 * a.size + 1200 ≤ k → wd + 5 ≤ k := fun k hk => by omega
  unfold T.printf_spec_told.f R.cowrieref09_told.f
  rcases hl with rfl | rfl | rfl | rfl | rfl | rfl
  · -- s
    rw [if_neg (by decide), if_neg (by decide), if_neg (by decide), if_neg (by decide)]
    refine ⟨padded fl wd a, true, ?_, by rw [padded_size]; omega, fun k hk => ?_⟩
    · rw [show (200 : Nat) = 199 + 1 from rfl, T.printf_spec_told.j0, if_neg (by decide)]
      exact t_pad fl wd hw a (by omega) true
    · obtain ⟨k, rfl⟩ : ∃ m, k = m + 1 := ⟨k - 1, by omega⟩
      rw [if_neg (by decide), if_neg (by decide), if_neg (by decide), if_neg (by decide), R.cowrieref09_told.j0, if_neg (by decide), r_pad 115 sz fl wd hw a (by omega) (fun e => by cases e.2) k (by omega)]
      rfl
  · -- b
    obtain ⟨t, ht, hts, htr⟩ := escape_ref a (by omega)
    rw [if_pos rfl, ht, Option.bind_some]
    refine ⟨padded fl wd t, true, t_pad fl wd hw t (by omega) true, by rw [padded_size]; omega, fun k hk => ?_⟩
    rw [if_pos rfl, htr k (by omega), Option.bind_some, r_pad 98 sz fl wd hw t (by omega) (fun e => by cases e.2) k (by omega)]
    rfl
  · -- c
    have hmn : mn (a.size : Int) 1 = ((min a.size 1 : Nat) : Int) := by unfold mn; split <;> omega
    have hmn2 : mn 1 (a.size : Int) = ((min a.size 1 : Nat) : Int) := by unfold mn; split <;> omega
    have hts : (a.extract 0 (min a.size 1)).size ≤ 1 := by rw [ByteArray.size_extract]; omega
    rw [if_neg (by decide), if_pos rfl, hmn, if_pos (by omega), if_pos (by omega), Int.toNat_natCast]
    refine ⟨padded fl wd (a.extract 0 (min a.size 1)), true, t_pad fl wd hw _ (by omega) true, by rw [padded_size]; omega, fun k hk => ?_⟩
    rw [if_neg (by decide), if_pos rfl, hmn2, if_pos (by omega), if_pos (by omega), Int.toNat_natCast, r_pad 99 sz fl wd hw _ (by omega) (fun e => by cases e.2) k (by omega)]
    rfl
  · obtain ⟨r, ok, h1, h2, h3⟩ := numCase (.inl rfl)
    refine ⟨r, ok, ?_, h2, fun k hk => ?_⟩
    · rw [if_neg (by decide), if_neg (by decide), if_pos rfl]
      exact h1
    · rw [if_neg (by decide), if_neg (by decide), if_pos rfl]
      exact h3 k hk
  · obtain ⟨r, ok, h1, h2, h3⟩ := numCase (.inr (.inl rfl))
    refine ⟨r, ok, ?_, h2, fun k hk => ?_⟩
    · rw [if_neg (by decide), if_neg (by decide), if_neg (by decide), if_pos rfl]
      exact h1
    · rw [if_neg (by decide), if_neg (by decide), if_neg (by decide), if_pos rfl]
      exact h3 k hk
  · obtain ⟨r, ok, h1, h2, h3⟩ := numCase (.inr (.inr rfl))
    refine ⟨r, ok, ?_, h2, fun k hk => ?_⟩
    · rw [if_neg (by decide), if_neg (by decide), if_neg (by decide), if_neg (by decide)]
      exact h1
    · rw [if_neg (by decide), if_neg (by decide), if_neg (by decide), if_neg (by decide)]
      exact h3 k hk
end Go.Proofs.YtagdkbncfcdhdaaDoor.PureT

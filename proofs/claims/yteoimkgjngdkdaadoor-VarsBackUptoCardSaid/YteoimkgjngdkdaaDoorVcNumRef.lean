/- Proved: the page's Trim, digits, Parse and Print (cowrieref04) are the program's. Plain Lean: no program's step. -/
import Derived.Test.YteoimkgjngdkdaaDoorVcT2
import Derived.Test.YteoimkgjngdkdaaDoorVcParseQ
import Derived.Test.YteoimkgjngdkdaaDoorVcPr
set_option linter.unusedVariables false
set_option linter.unusedSimpArgs false
namespace Go.Proofs.YteoimkgjngdkdaaDoor.PureN
open Go.RowKit Go.Proofs.YteoimkgjngdkdaaDoor.Ext Go.Proofs.YteoimkgjngdkdaaDoorW.PrintWords
theorem tail_list (a : ByteArray) (c : UInt8) (l : List UInt8) (h : a.data.toList = c :: l) : (a.extract 1 a.size).data.toList = l := by
  rw [tail_data, h]
  rfl
theorem ba_ext' {a b : ByteArray} (h : a.data.toList = b.data.toList) : a = b := by
  apply ByteArray.ext
  exact Array.toList_inj.1 h
theorem bt_list (x : ByteArray) (i : Nat) (h : i < x.data.toList.length) : bt x ((i : Nat) : Int) = ((x.data.toList[i].toNat : Nat) : Int) := by
  have h2 : i < x.size := by rw [ba_size]; exact h
  rw [← bt_at x i (by rw [Int.toNat_natCast]; exact h2)]
  simp
  rfl
theorem wr (i : Nat) (h : i ≤ 1000000000000) : wrap64 (((i : Nat) : Int) + 1) = ((i + 1 : Nat) : Int) := by unfold wrap64; omega
theorem drop_comm (p : UInt8 → Bool) : ∀ l : List UInt8, ((l.dropWhile p).reverse.dropWhile p).reverse = ((l.reverse.dropWhile p).reverse).dropWhile p
  | [] => rfl
  | c :: l => by
    have ih := drop_comm p l
    rw [List.reverse_cons, List.dropWhile_append]
    by_cases hc : p c = true
    · rw [List.dropWhile_cons, if_pos hc, ih]
      by_cases he : (l.reverse.dropWhile p).isEmpty = true
      · rw [if_pos he, List.dropWhile_cons, if_pos hc, List.isEmpty_iff.1 he]
        rfl
      · rw [if_neg he, List.reverse_append, List.reverse_singleton, List.singleton_append, List.dropWhile_cons, if_pos hc]
    · have h1 : (c :: l).dropWhile p = c :: l := by rw [List.dropWhile_cons, if_neg hc]
      have h2 : ([c] : List UInt8).dropWhile p = [c] := by rw [List.dropWhile_cons, if_neg hc]
      rw [h1, List.reverse_cons, List.dropWhile_append, h2]
      by_cases he : (l.reverse.dropWhile p).isEmpty = true
      · rw [if_pos he, List.reverse_singleton, h2]
      · rw [if_neg he, List.reverse_append, List.reverse_singleton, List.singleton_append, List.dropWhile_cons, if_neg hc]
def cs : List UInt8 := [32, 9]
theorem cs_has (c : UInt8) : cs.contains c = true ↔ c = 32 ∨ c = 9 := by
  unfold cs
  simp
theorem right_snoc (l : List UInt8) (c : UInt8) : Lib.trimRightS (l ++ [c]) cs = if c = 32 ∨ c = 9 then Lib.trimRightS l cs else l ++ [c] := by
  unfold Lib.trimRightS
  rw [List.reverse_append, List.reverse_singleton, List.singleton_append, List.dropWhile_cons]
  by_cases h : c = 32 ∨ c = 9
  · rw [if_pos h, if_pos ((cs_has c).2 h)]
  · rw [if_neg h, if_neg (fun e => h ((cs_has c).1 e))]
    simp
theorem left_cons (l : List UInt8) (c : UInt8) : Lib.trimLeftS (c :: l) cs = if c = 32 ∨ c = 9 then Lib.trimLeftS l cs else c :: l := by
  unfold Lib.trimLeftS
  rw [List.dropWhile_cons]
  by_cases h : c = 32 ∨ c = 9
  · rw [if_pos h, if_pos ((cs_has c).2 h)]
  · rw [if_neg h, if_neg (fun e => h ((cs_has c).1 e))]
theorem bt_last (x : ByteArray) (l : List UInt8) (c : UInt8) (h : x.data.toList = l ++ [c]) (hs : x.size ≤ 1000000000) : wrap64 ((x.size : Int) - 1) = (l.length : Int) ∧ bt x (l.length : Int) = (c.toNat : Int) ∧ x.extract 0 l.length = ⟨l.toArray⟩ := by
  have hx : x.size = l.length + 1 := by rw [ba_size, h]; simp
  refine ⟨by unfold wrap64; omega, ?_, ?_⟩
  · have hi : l.length < x.data.toList.length := by rw [h]; simp
    rw [bt_list x l.length hi]
    congr 2
    simp [h]
  · apply ba_ext'
    have : (x.extract 0 l.length).data.toList = x.data.toList.take l.length := by simp [ByteArray.data_extract]
    rw [this, h]
    simp
theorem trim_r : ∀ (n : Nat) (x : ByteArray), x.size ≤ n → x.size ≤ 1000000000 → ∀ k, n + 1 ≤ k → T.cowrieref04_Trim.l1 k x = some ⟨(Lib.trimRightS x.data.toList cs).toArray⟩ := by
  intro n
  induction n with
  | zero =>
    intro x hx hs k hk
    obtain ⟨k, rfl⟩ : ∃ m, k = m + 1 := ⟨k - 1, by omega⟩
    rw [T.cowrieref04_Trim.l1, if_neg (by omega)]
    have h0 : x.data.toList = [] := List.eq_nil_of_length_eq_zero (by rw [← ba_size]; omega)
    congr 1
    apply ba_ext'
    rw [h0]
    rfl
  | succ n ih =>
    intro x hx hs k hk
    obtain ⟨k, rfl⟩ : ∃ m, k = m + 1 := ⟨k - 1, by omega⟩
    by_cases h0 : x.size = 0
    · rw [T.cowrieref04_Trim.l1, if_neg (by omega)]
      have h0 : x.data.toList = [] := List.eq_nil_of_length_eq_zero (by rw [← ba_size]; omega)
      congr 1
      apply ba_ext'
      rw [h0]
      rfl
    · obtain ⟨l, c, hl⟩ : ∃ l c, x.data.toList = l ++ [c] := by
        have hne : x.data.toList ≠ [] := by
          intro e
          apply h0
          rw [ba_size, e]
          rfl
        exact ⟨_, _, (List.dropLast_concat_getLast hne).symm⟩
      obtain ⟨e1, e2, e3⟩ := bt_last x l c hl hs
      have hxs : x.size = l.length + 1 := by rw [ba_size, hl]; simp
      have hls : (⟨l.toArray⟩ : ByteArray).size = l.length := by simp [ByteArray.size]
      have g1 : (x.size : Int) > 0 := by omega
      have g2 : (0 : Int) ≤ (l.length : Int) := by omega
      have g3 : (l.length : Int) < (x.size : Int) := by omega
      have g4 : (l.length : Int) ≤ (x.size : Int) := by omega
      have hrec := ih ⟨l.toArray⟩ (by omega) (by omega) k (by omega)
      rw [T.cowrieref04_Trim.l1, if_pos g1, e1, if_pos g2, if_pos g3, e2, hl, right_snoc, Int.toNat_natCast, if_pos g4, e3]
      by_cases hc : c = 32
      · subst hc
        rw [if_pos (by decide), if_pos (.inl rfl), hrec]
      · rw [if_neg (fun e => hc (UInt8.toNat_inj.1 (by show c.toNat = 32; omega)))]
        by_cases hc2 : c = 9
        · subst hc2
          rw [if_pos (by decide), if_pos (.inr rfl), hrec]
        · rw [if_neg (fun e => hc2 (UInt8.toNat_inj.1 (by show c.toNat = 9; omega))), if_neg (by rintro (h | h); exact hc h; exact hc2 h)]
          congr 1
          apply ba_ext'
          exact hl
theorem trim_l : ∀ (n : Nat) (x : ByteArray), x.size ≤ n → x.size ≤ 1000000000 → ∀ k, 2 * n + 4 ≤ k → T.cowrieref04_Trim.l0 k x = some ⟨(Lib.trimRightS (Lib.trimLeftS x.data.toList cs) cs).toArray⟩ := by
  intro n
  induction n with
  | zero =>
    intro x hx hs k hk
    obtain ⟨k, rfl⟩ : ∃ m, k = m + 1 + 1 := ⟨k - 2, by omega⟩
    rw [T.cowrieref04_Trim.l0, if_neg (by omega), T.cowrieref04_Trim.j1, trim_r 0 x hx hs k (by omega)]
    have h0 : x.data.toList = [] := List.eq_nil_of_length_eq_zero (by rw [← ba_size]; omega)
    rw [h0]
    rfl
  | succ n ih =>
    intro x hx hs k hk
    obtain ⟨k, rfl⟩ : ∃ m, k = m + 1 + 1 := ⟨k - 2, by omega⟩
    by_cases h0 : x.size = 0
    · rw [T.cowrieref04_Trim.l0, if_neg (by omega), T.cowrieref04_Trim.j1, trim_r 0 x (by omega) hs k (by omega)]
      have h0 : x.data.toList = [] := List.eq_nil_of_length_eq_zero (by rw [← ba_size]; omega)
      rw [h0]
      rfl
    · obtain ⟨c, l, hl⟩ : ∃ c l, x.data.toList = c :: l := by
        cases e : x.data.toList with
        | nil => exact absurd (by rw [ba_size, e]; rfl) h0
        | cons c l => exact ⟨c, l, rfl⟩
      have hxs : x.size = l.length + 1 := by rw [ba_size, hl]; simp
      have ht := tail_list x c l hl
      have hts : (x.extract 1 x.size).size = l.length := by rw [ba_size, ht]
      have hb : bt x 0 = (c.toNat : Int) := by
        have hi : 0 < x.data.toList.length := by rw [hl]; simp
        have := bt_list x 0 hi
        rw [show ((0 : Nat) : Int) = 0 from rfl] at this
        rw [this]
        simp [hl]
      have g1 : (x.size : Int) > 0 := by omega
      have g2 : (0 : Int) < (x.size : Int) := by omega
      have g3 : (1 : Int) ≤ (x.size : Int) := by omega
      have hrec := ih (x.extract 1 x.size) (by omega) (by omega) (k + 1) (by omega)
      rw [ht] at hrec
      rw [T.cowrieref04_Trim.l0, if_pos g1, if_pos g2, hb, hl, left_cons]
      by_cases hc : c = 32
      · subst hc
        rw [if_pos (by decide), if_pos g3, if_pos (.inl rfl), hrec]
      · rw [if_neg (fun e => hc (UInt8.toNat_inj.1 (by show c.toNat = 32; omega)))]
        by_cases hc2 : c = 9
        · subst hc2
          rw [if_pos (by decide), if_pos g3, if_pos (.inr rfl), hrec]
        · rw [if_neg (fun e => hc2 (UInt8.toNat_inj.1 (by show c.toNat = 9; omega))), if_neg (by rintro (h | h); exact hc h; exact hc2 h), T.cowrieref04_Trim.j1, trim_r (n + 1) x hx hs k (by omega), hl]
theorem trim_ref (x : ByteArray) (hs : x.size ≤ 1000000000) (k : Nat) (hk : 2 * x.size + 4 ≤ k) : T.cowrieref04_Trim.f k x = some ⟨(Lib.trimS x.data.toList [32, 9]).toArray⟩ := by
  unfold T.cowrieref04_Trim.f
  rw [trim_l x.size x (Nat.le_refl _) hs k hk]
  congr 2
  unfold Lib.trimS Lib.trimLeftS Lib.trimRightS
  exact congrArg List.toArray (drop_comm (cs.contains ·) x.data.toList)
theorem dig10_all : ∀ c : Fin 256, digitOf 10 ((c : Nat) : Int) = if 48 ≤ (c : Nat) ∧ (c : Nat) ≤ 57 then ((c : Nat) : Int) - 48 else -1 := by decide +kernel
theorem dig10_nat (c : Nat) (h : c < 256) : digitOf 10 ((c : Nat) : Int) = if 48 ≤ c ∧ c ≤ 57 then (c : Int) - 48 else -1 := dig10_all ⟨c, h⟩
def digR (x : ByteArray) : Option Int → Int × Bool
  | none => (0, false)
  | some m => (m, decide ((x.size : Int) > 0))
theorem digits_ref (x : ByteArray) (hs : x.size ≤ 1000000000) : ∀ (d i : Nat) (n : Int), d + i = x.size → ∀ k, 4 * d + 5 ≤ k → T.cowrieref04_digits.l0 k x 10 n i = some (digR x (digitsGo 10 (x.data.toList.drop i) n)) := by
  intro d
  have hxl := ba_size x
  induction d with
  | zero =>
    intro i n hi k hk
    obtain ⟨k, rfl⟩ : ∃ m, k = m + 1 := ⟨k - 1, by omega⟩
    rw [T.cowrieref04_digits.l0, if_neg (by omega), List.drop_of_length_le (by omega), digitsGo]
    rfl
  | succ d ih =>
    intro i n hi k hk
    obtain ⟨k, rfl⟩ : ∃ m, k = m + 1 + 1 + 1 + 1 := ⟨k - 4, by omega⟩
    have hil : i < x.data.toList.length := by omega
    have g1 : ((i : Nat) : Int) < (x.size : Int) := by omega
    have g2 : (0 : Int) ≤ ((i : Nat) : Int) := Int.natCast_nonneg _
    have hb := bt_list x i hil
    have hc := x.data.toList[i].toNat_lt
    have hd := dig10_nat x.data.toList[i].toNat hc
    rw [List.drop_eq_getElem_cons hil, digitsGo, hd, T.cowrieref04_digits.l0, if_pos g1, if_pos g2, hb]
    clear hd hb
    generalize x.data.toList[i].toNat = c at *
    by_cases hr : 48 ≤ c ∧ c ≤ 57
    · have e1 : (((c : Nat) : Int) - 48) % 256 = (c : Int) - 48 := by omega
      rw [if_pos (by omega), if_pos hr, if_neg (by omega), T.cowrieref04_digits.j1, if_pos (by rw [decide_eq_true (by omega)]), e1, if_neg (by omega), wr i (by omega)]
      exact ih (i + 1) _ (by omega) (k + 1 + 1) (by omega)
    · have hz : ∀ b : Bool, (b = true → (c : Int) ≤ 57 ∧ (c : Int) ≥ 48) → T.cowrieref04_digits.j1 (k + 1 + 1 + 1) x 10 n i c 99 b = some (0, false) := by
        intro b hb
        have hbf : b = false := by
          cases b with
          | false => rfl
          | true => exact absurd (hb rfl) (by omega)
        subst hbf
        rw [T.cowrieref04_digits.j1, if_neg (by decide)]
        have h3 : ∀ b : Bool, (b = true → 65 ≤ (c : Int) ∧ (c : Int) ≤ 70) → T.cowrieref04_digits.j3 (k + 1) x 10 n i c 99 b = some (0, false) := by
          intro b hb
          rw [T.cowrieref04_digits.j3]
          cases b with
          | false => rw [if_neg (by decide), if_pos (by decide)]
          | true => rw [if_pos rfl, if_pos (by have := hb rfl; omega)]
        have h2 : ∀ b : Bool, (b = true → 97 ≤ (c : Int) ∧ (c : Int) ≤ 102) → T.cowrieref04_digits.j2 (k + 1 + 1) x 10 n i c 99 b = some (0, false) := by
          intro b hb
          rw [T.cowrieref04_digits.j2]
          cases b with
          | true => rw [if_pos rfl, if_pos (by have := hb rfl; omega)]
          | false =>
            rw [if_neg (by decide)]
            split
            · exact h3 _ (fun e => ⟨by assumption, of_decide_eq_true e⟩)
            · exact h3 _ (fun e => by cases e)
        split
        · exact h2 _ (fun e => ⟨by assumption, of_decide_eq_true e⟩)
        · exact h2 _ (fun e => by cases e)
      rw [if_neg hr, @if_pos ((-1 : Int) < 0) _ (by decide)]
      split
      · exact hz _ (fun e => ⟨of_decide_eq_true e, by assumption⟩)
      · exact hz _ (fun e => by cases e)
theorem parse_ref (x : ByteArray) (hs : x.size ≤ 100000000) (k : Nat) (hk : 4 * x.size + 20 ≤ k) : T.cowrieref04_Parse.f k x = some (parseL x.data.toList) := by
  unfold T.cowrieref04_Parse.f parseL
  have hle := trim_le x.data.toList [32, 9]
  have hxl := ba_size x
  rw [trim_ref x (by omega) k (by omega), Option.bind_some]
  generalize Lib.trimS x.data.toList [32, 9] = t at hle
  have hts : (⟨t.toArray⟩ : ByteArray).size = t.length := by simp [ByteArray.size]
  obtain ⟨k, rfl⟩ : ∃ m, k = m + 1 + 1 + 1 := ⟨k - 3, by omega⟩
  -- BEHIND THE SIGN
  have j2 : ∀ (y : ByteArray) (b : Bool), y.size ≤ t.length → T.cowrieref04_Parse.j2 (k + 1) y b = some (match digitsGo 10 y.data.toList 0 with | none => (0, 33) | some n => if y.data.toList = [] then (0, 33) else if b then (wrap64 (IntKind.u64.wrap (-n)), 0) else (wrap64 n, 0)) := by
    intro y b hy
    rw [T.cowrieref04_Parse.j2]
    unfold T.cowrieref04_digits.f
    have hdr := digits_ref y (by omega) y.size 0 0 (by omega) k (by omega)
    rw [List.drop_zero, show ((0 : Nat) : Int) = 0 from rfl] at hdr
    rw [hdr, Option.bind_some]
    cases digitsGo 10 y.data.toList 0 with
    | none => rfl
    | some n =>
      show (if decide ((y.size : Int) > 0) = true then _ else _) = _
      by_cases h0 : y.data.toList = []
      · have : y.size = 0 := by rw [ba_size, h0]; rfl
        rw [if_neg (by rw [decide_eq_false (by omega)]; decide)]
        show _ = some (if y.data.toList = [] then _ else _)
        rw [if_pos h0]
      · have : y.size ≠ 0 := by
          intro e
          apply h0
          exact List.eq_nil_of_length_eq_zero (by rw [← ba_size]; exact e)
        rw [if_pos (decide_eq_true (by omega))]
        show _ = some (if y.data.toList = [] then _ else _)
        rw [if_neg h0]
        cases b <;> rfl
  cases t with
  | nil =>
    rw [if_neg (by rw [hts]; decide), T.cowrieref04_Parse.j0, if_neg (by decide), if_neg (by rw [hts]; decide), T.cowrieref04_Parse.j1, if_neg (by decide), j2 _ _ (Nat.le_of_eq hts)]
    rfl
  | cons c l =>
    have hlen : (c :: l).length = l.length + 1 := List.length_cons
    have hb : bt (⟨(c :: l).toArray⟩ : ByteArray) 0 = (c.toNat : Int) := by
      have := bt_list (⟨(c :: l).toArray⟩ : ByteArray) 0 (by simp)
      rw [show ((0 : Nat) : Int) = 0 from rfl] at this
      rw [this]
      simp
    have htl := tail_list (⟨(c :: l).toArray⟩ : ByteArray) c l rfl
    have htls : ((⟨(c :: l).toArray⟩ : ByteArray).extract 1 (⟨(c :: l).toArray⟩ : ByteArray).size).size = l.length := by rw [ba_size, htl]
    have g1 : ((⟨(c :: l).toArray⟩ : ByteArray).size : Int) > 0 := by rw [hts, hlen]; omega
    have g2 : (0 : Int) < ((⟨(c :: l).toArray⟩ : ByteArray).size : Int) := by rw [hts, hlen]; omega
    have g3 : (1 : Int) ≤ ((⟨(c :: l).toArray⟩ : ByteArray).size : Int) := by rw [hts, hlen]; omega
    rw [if_pos g1, if_pos g2, hb, T.cowrieref04_Parse.j0]
    by_cases h45 : c = 45
    · subst h45
      rw [if_pos (by decide), T.cowrieref04_Parse.j1, if_pos rfl, if_pos g3, j2 _ _ (by rw [htls, hlen]; omega), htl]
      simp only [signL, if_pos]
      rfl
    · have n45 : ((c.toNat : Int) == 45) = false := beq_eq_false_iff_ne.2 (fun e => h45 (UInt8.toNat_inj.1 (by show c.toNat = 45; omega)))
      rw [n45, if_neg (by decide), if_pos g1, if_pos g2, hb, T.cowrieref04_Parse.j1]
      by_cases h43 : c = 43
      · subst h43
        rw [if_pos (by decide), if_pos g3, j2 _ _ (by rw [htls, hlen]; omega), htl]
        rfl
      · have n43 : ((c.toNat : Int) == 43) = false := beq_eq_false_iff_ne.2 (fun e => h43 (UInt8.toNat_inj.1 (by show c.toNat = 43; omega)))
        rw [n43, if_neg (by decide), j2 _ _ (Nat.le_of_eq hts)]
        simp only [signL, if_neg h45, if_neg h43]
        rfl
theorem decs_len (n : Nat) : ∀ k, n < 10 ^ (k + 1) → (decs n).length ≤ k + 1 := by
  induction n using Nat.strongRecOn with
  | ind n ih =>
    intro k hk
    rw [decs]
    split
    · simp
    · rename_i h
      rw [List.length_append]
      cases k with
      | zero => simp at hk; omega
      | succ k =>
        have := ih (n / 10) (by omega) k (by rw [Nat.pow_succ] at hk; omega)
        simp only [List.length_cons, List.length_nil]
        omega
theorem dig_str : ∀ d : Fin 10, strOfNums [(IntKind.u64.wrap (48 + ((d : Nat) : Int))) % 256] = ⟨#[(48 + (d : Nat)).toUInt8]⟩ := by decide +kernel
theorem dig_nat (d : Nat) (h : d < 10) : strOfNums [(IntKind.u64.wrap (48 + (d : Int))) % 256] = ⟨#[(48 + d).toUInt8]⟩ := dig_str ⟨d, h⟩
theorem word_ref : ∀ (j k n : Nat), n < 10 ^ j → 1 ≤ j → j ≤ k → n < 18446744073709551616 → T.cowrieref04_word.f k (n : Int) = some ⟨(decs n).toArray⟩ := by
  intro j
  induction j with
  | zero => intro k n _ h; omega
  | succ j ih =>
    intro k n hn _ hk h64
    obtain ⟨k, rfl⟩ : ∃ m, k = m + 1 := ⟨k - 1, by omega⟩
    rw [T.cowrieref04_word.f, decs]
    by_cases h0 : n < 10
    · rw [if_pos (by omega), if_pos h0, dig_nat n h0]
    · have hk1 : 1 ≤ j := by
        rcases Nat.eq_zero_or_pos j with rfl | h
        · rw [Nat.pow_one] at hn
          omega
        · exact h
      have hdn : n / 10 < 10 ^ j := by
        rw [Nat.div_lt_iff_lt_mul (by omega), ← Nat.pow_succ]
        exact hn
      have e1 : IntKind.u64.wrap (Int.tdiv (n : Int) 10) = ((n / 10 : Nat) : Int) := by
        rw [IntKind.wrap_u64, Int.tdiv_eq_ediv_of_nonneg (by omega)]
        omega
      have e2 : Int.tmod (n : Int) 10 = ((n % 10 : Nat) : Int) := by
        rw [Int.tmod_eq_emod_of_nonneg (by omega)]
        omega
      have hsz : (⟨(decs (n / 10)).toArray⟩ : ByteArray).size = (decs (n / 10)).length := by simp [ByteArray.size]
      have hl := decs_len (n / 10) 19 (by omega)
      rw [if_neg (by omega), if_neg h0, e1, e2, ih k (n / 10) hdn hk1 (by omega) (by omega), Option.bind_some, Option.bind_some, dig_nat (n % 10) (Nat.mod_lt _ (by decide)), if_pos (by rw [hsz]; show _ + 1 ≤ _; omega)]
      congr 1
theorem print_ref (a : Int) (h : -9223372036854775808 ≤ a ∧ a ≤ 9223372036854775807) (k : Nat) (hk : 20 ≤ k) : T.cowrieref04_Print.f k a = some ⟨(decsInt a).toArray⟩ := by
  have h1 := decs_len a.natAbs 19 (by omega)
  have hd := word_ref 20 k a.natAbs (Nat.lt_of_lt_of_le (show a.natAbs < 18446744073709551616 by omega) (by decide +kernel)) (by decide) hk (by omega)
  unfold T.cowrieref04_Print.f decsInt
  split
  · rename_i hn
    rw [show IntKind.u64.wrap (-(IntKind.u64.wrap a)) = ((a.natAbs : Nat) : Int) from by rw [IntKind.wrap_u64, IntKind.wrap_u64]; omega, hd, Option.bind_some]
    have hsz : (⟨(decs a.natAbs).toArray⟩ : ByteArray).size = (decs a.natAbs).length := by simp [ByteArray.size]
    rw [if_pos (by rw [hsz]; omega)]
    congr 1
  · rename_i hn
    rw [show IntKind.u64.wrap a = ((a.natAbs : Nat) : Int) from by rw [IntKind.wrap_u64]; omega, hd]
    rfl
end Go.Proofs.YteoimkgjngdkdaaDoor.PureN

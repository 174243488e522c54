/- Proved: the document's escapes (cowrieref09.one) are the program's (printf.escape). Plain Lean: no program's step. -/
import Derived.Test.YtagdkbncfcdhdaaDoorVR1
import Derived.Test.YtagdkbncfcdhdaaDoorVPurePlainOnce
set_option linter.unusedVariables false
namespace Go.Proofs.YtagdkbncfcdhdaaDoor.PureT
open Go.RowKit Go.Proofs.YtagdkbncfcdhdaaDoor.Ext Go.Proofs.YtagdkbncfcdhdaaDoorW.PrintWords
theorem or_oct : ∀ n : Fin 64, ∀ d : Fin 8, Go.bits .or .i64 (wrap64 (((n : Nat) : Int) * 8)) ((d : Nat) : Int) = ((8 * n + d : Nat) : Int) := by decide +kernel
theorem and_oct : ∀ n : Fin 512, Go.bits .and .i64 ((n : Nat) : Int) 255 = (((n : Nat) % 256 : Nat) : Int) := by decide +kernel
theorem or_oct' (n c : Nat) (hn : n < 64) (hc : c < 8) : Go.bits .or .i64 (wrap64 ((n : Int) * 8)) (c : Int) = ((8 * n + c : Nat) : Int) := or_oct ⟨n, hn⟩ ⟨c, hc⟩
theorem and_oct' (n : Nat) (hn : n < 512) : Go.bits .and .i64 (n : Int) 255 = ((n % 256 : Nat) : Int) := and_oct ⟨n, hn⟩
theorem w8 (n c : Nat) (hn : n < 64) (hc : c < 8) : wrap64 ((wrap64 (8 * (n : Int))) + (c : Int)) = ((8 * n + c : Nat) : Int) := by unfold wrap64; omega
theorem d8 (c : Nat) (hc : c < 8) : ((((48 + c : Nat) : Int) - 48) % 256) = (c : Int) := by omega
/-- What both tell of octal digits: of value n, i of them. -/
def octR (n i : Nat) : ByteArray × Int := if i = 0 then (⟨#[]⟩, 0) else if n % 256 = 0 then (⟨#[]⟩, ((i + 1 : Nat) : Int)) else (strOfNums [((n : Nat) : Int) % 256], ((i + 1 : Nat) : Int))
theorem q_j2 (k n i : Nat) (hn : n < 512) (hi : i ≤ 3) : Q.printf_escape.j2 (k + 1) n ((i + 1 : Nat) : Int) = some (octR n i) := by
  rw [Q.printf_escape.j2]
  unfold octR
  by_cases h0 : i = 0
  · rw [if_pos (by omega), if_pos h0]
  · rw [if_neg (by omega), if_neg h0, and_oct' n hn]
    by_cases h1 : n % 256 = 0
    · rw [if_pos (by omega), if_pos h1]
    · rw [if_neg (by show ¬ (((n % 256 : Nat) : Int) = 0); omega), if_neg h1]
theorem r_j3 (k n i : Nat) (hn : n < 512) (hi : i ≤ 3) : R.cowrieref09_one.j3 (k + 1) n i = some (octR n i) := by
  rw [R.cowrieref09_one.j3]
  unfold octR
  have hw : wrap64 ((i : Int) + 1) = ((i + 1 : Nat) : Int) := by unfold wrap64; omega
  have ht : Int.tmod (n : Int) 256 = ((n % 256 : Nat) : Int) := by
    rw [Int.tmod_eq_emod_of_nonneg (by omega)]
    omega
  by_cases h0 : i = 0
  · rw [if_pos (by omega), if_pos h0]
  · rw [if_neg (by omega), if_neg h0, ht, hw]
    by_cases h1 : n % 256 = 0
    · rw [if_pos (by omega), if_pos h1]
    · rw [if_neg (by omega), if_neg h1]
/-- What an escape tells: at most one octet, of no more than there are. -/
def Good (x : ByteArray) (r : ByteArray × Int) : Prop := 0 ≤ r.2 ∧ r.2 ≤ x.size ∧ r.1.size ≤ 1
theorem octR_good (x : ByteArray) (n i : Nat) (h : i < x.size) : Good x (octR n i) := by
  unfold Good octR
  split
  · exact ⟨by show (0 : Int) ≤ 0; omega, by show (0 : Int) ≤ x.size; omega, by show (0 : Nat) ≤ 1; omega⟩
  · split
    · exact ⟨by show (0 : Int) ≤ ((i + 1 : Nat) : Int); omega, by show ((i + 1 : Nat) : Int) ≤ x.size; omega, by show (0 : Nat) ≤ 1; omega⟩
    · exact ⟨by show (0 : Int) ≤ ((i + 1 : Nat) : Int); omega, by show ((i + 1 : Nat) : Int) ≤ x.size; omega, by show (1 : Nat) ≤ 1; omega⟩
theorem oct (x : ByteArray) : ∀ (d i n : Nat), d + i = 3 → n < 8 ^ i → i < x.size → ∃ r, Good x r ∧ ∀ k, d + 2 ≤ k → Q.printf_escape.l0 k x n ((i + 1 : Nat) : Int) = some r ∧ R.cowrieref09_one.l1 k x n i = some r := by
  intro d
  induction d with
  | zero =>
    intro i n hi hn hix
    obtain rfl : i = 3 := by omega
    have h512 : n < 512 := hn
    refine ⟨octR n 3, octR_good x n 3 hix, fun k hk => ?_⟩
    obtain ⟨k, rfl⟩ : ∃ m, k = m + 1 + 1 := ⟨k - 2, by omega⟩
    constructor
    · rw [Q.printf_escape.l0, if_neg (by unfold mn; split <;> omega)]
      exact q_j2 k n 3 h512 (by decide)
    · rw [R.cowrieref09_one.l1, if_neg (by decide)]
      exact r_j3 k n 3 h512 (by decide)
  | succ d ih =>
    intro i n hi hn hix
    have hp : (8 : Nat) ^ i ≤ 8 ^ 2 := Nat.pow_le_pow_right (by decide) (by omega)
    have h64 : n < 64 := by omega
    have hw : wrap64 ((i : Int) + 1) = ((i + 1 : Nat) : Int) := by unfold wrap64; omega
    have hw2 : wrap64 (((i + 1 : Nat) : Int) + 1) = ((i + 1 + 1 : Nat) : Int) := by unfold wrap64; omega
    by_cases hs : i + 1 < x.size
    · have hmn : ((i + 1 : Nat) : Int) < mn (x.size : Int) 4 := by unfold mn; split <;> omega
      have hr := bt_range x ((i + 1 : Nat) : Int)
      by_cases hc : 48 ≤ bt x ((i + 1 : Nat) : Int) ∧ bt x ((i + 1 : Nat) : Int) ≤ 55
      · obtain ⟨c, hcd⟩ : ∃ c : Nat, bt x ((i + 1 : Nat) : Int) = ((48 + c : Nat) : Int) := ⟨(bt x ((i + 1 : Nat) : Int)).toNat - 48, by omega⟩
        have hc8 : c < 8 := by omega
        obtain ⟨r, hg, hr⟩ := ih (i + 1) (8 * n + c) (by omega) (by rw [Nat.pow_succ]; omega) hs
        refine ⟨r, hg, fun k hk => ?_⟩
        obtain ⟨k, rfl⟩ : ∃ m, k = m + 1 := ⟨k - 1, by omega⟩
        obtain ⟨h1, h2⟩ := hr k (by omega)
        have i0 : (0 : Int) ≤ ((i + 1 : Nat) : Int) := Int.natCast_nonneg _
        have il : ((i + 1 : Nat) : Int) < (x.size : Int) := Int.ofNat_lt.2 hs
        have i3 : (i : Int) < 3 := Int.ofNat_lt.2 (show i < 3 by omega)
        have g1 : ((48 + c : Nat) : Int) ≥ 48 := by omega
        have g2 : ((48 + c : Nat) : Int) ≤ 55 := by omega
        constructor
        · rw [Q.printf_escape.l0, if_pos hmn, if_pos i0, if_pos il, hcd, if_pos g1, if_pos g2, d8 c hc8, hw2, or_oct' n c h64 hc8]
          exact h1
        · rw [R.cowrieref09_one.l1, if_pos i3, hw, if_pos il, if_pos i0, hcd, if_pos g1, if_pos g2, d8 c hc8, w8 n c h64 hc8]
          exact h2
      · refine ⟨octR n i, octR_good x n i hix, fun k hk => ?_⟩
        obtain ⟨k, rfl⟩ : ∃ m, k = m + 1 + 1 := ⟨k - 2, by omega⟩
        constructor
        · rw [Q.printf_escape.l0, if_pos hmn, if_pos (by omega), if_pos (by omega)]
          have := q_j2 k n i (by omega) (by omega)
          split
          · split
            · exfalso; apply hc; constructor <;> assumption
            · exact this
          · exact this
        · rw [R.cowrieref09_one.l1, if_pos (by omega), hw, if_pos (by omega), if_pos (by omega)]
          have := r_j3 k n i (by omega) (by omega)
          split
          · split
            · exfalso; apply hc; constructor <;> assumption
            · exact this
          · exact this
    · refine ⟨octR n i, octR_good x n i hix, fun k hk => ?_⟩
      obtain ⟨k, rfl⟩ : ∃ m, k = m + 1 + 1 := ⟨k - 2, by omega⟩
      constructor
      · rw [Q.printf_escape.l0, if_neg (by unfold mn; split <;> omega)]
        exact q_j2 k n i (by omega) (by omega)
      · rw [R.cowrieref09_one.l1, if_pos (by omega), hw, if_neg (by omega)]
        exact r_j3 k n i (by omega) (by omega)
def N8 : ByteArray := ⟨#[92, 97, 98, 102, 110, 114, 116, 118]⟩
def O8 : ByteArray := ⟨#[92, 7, 8, 12, 10, 13, 9, 11]⟩
theorem idx8 : ∀ c : Fin 256, strings_IndexByte.f N8 ((c : Nat) : Int) = some (if (c : Nat) = 92 then 0 else if (c : Nat) = 97 then 1 else if (c : Nat) = 98 then 2 else if (c : Nat) = 102 then 3 else if (c : Nat) = 110 then 4 else if (c : Nat) = 114 then 5 else if (c : Nat) = 116 then 6 else if (c : Nat) = 118 then 7 else -1) := by decide +kernel
theorem n8 : ∀ i : Fin 8, bt N8 ((i : Nat) : Int) = ((N8.data.toList.getD i 0).toNat : Int) := by decide +kernel
theorem r_miss (k : Nat) (x : ByteArray) (i : Nat) (hi : i < 8) (hx : 1 < x.size) (h : bt x 1 ≠ bt N8 (i : Int)) : R.cowrieref09_one.l0 (k + 1 + 1) x N8 O8 i = R.cowrieref09_one.l0 k x N8 O8 ((i + 1 : Nat) : Int) := by
  have hN : (N8.size : Int) = 8 := rfl
  rw [R.cowrieref09_one.l0, if_pos (by omega), R.cowrieref09_one.j1, if_pos (decide_eq_true (by omega)), if_pos (by omega), if_pos (by omega), if_pos (by omega), if_neg h, show wrap64 ((i : Int) + 1) = ((i + 1 : Nat) : Int) from by unfold wrap64; omega]
theorem r_hit (k : Nat) (x : ByteArray) (i : Nat) (hi : i < 8) (hx : 1 < x.size) (h : bt x 1 = bt N8 (i : Int)) : R.cowrieref09_one.l0 (k + 1 + 1) x N8 O8 i = some (O8.extract i (i + 1), 2) := by
  have hN : (N8.size : Int) = 8 := rfl
  have hO : (O8.size : Int) = 8 := rfl
  have hw : wrap64 ((i : Int) + 1) = ((i + 1 : Nat) : Int) := by unfold wrap64; omega
  rw [R.cowrieref09_one.l0, if_pos (by omega), R.cowrieref09_one.j1, if_pos (decide_eq_true (by omega)), if_pos (by omega), if_pos (by omega), if_pos (by omega), if_pos h, hw, if_pos (by omega), if_pos (by omega)]
  rfl
theorem r_end (k : Nat) (x : ByteArray) (hx : 1 < x.size) : R.cowrieref09_one.l0 (k + 1 + 1) x N8 O8 8 = R.cowrieref09_one.l1 k x 0 0 := by
  have hN : (N8.size : Int) = 8 := rfl
  rw [R.cowrieref09_one.l0, if_neg (by omega), R.cowrieref09_one.j1, if_neg (by decide)]
/-- A text behind a backslash: the document's escape is the program's. -/
theorem one_escape (x : ByteArray) (l : List UInt8) (hx : x.data.toList = 92 :: l) : ∃ r, Good x r ∧ Q.printf_escape.f 8 x = some r ∧ ∀ k, 40 ≤ k → R.cowrieref09_one.f k x = some r := by
  have hsz : x.size = l.length + 1 := by rw [PurePf.ba_size, hx, List.length_cons]
  have hN : (N8.size : Int) = 8 := rfl
  have hhp : Q.strings_HasPrefix.f x (⟨#[92]⟩ : ByteArray) = some true := by
    unfold Q.strings_HasPrefix.f
    rw [PurePf.hp_one, hx]
    rfl
  unfold Q.printf_escape.f R.cowrieref09_one.f
  rw [hhp, Option.bind_some, if_pos rfl]
  by_cases h1 : x.size < 2
  · refine ⟨(⟨#[]⟩, 0), ⟨by decide, by show (0 : Int) ≤ x.size; omega, by decide⟩, ?_, fun k hk => ?_⟩
    · rw [show (8 : Nat) = 7 + 1 from rfl, Q.printf_escape.j0, if_pos (decide_eq_true (by omega))]
    · obtain ⟨k, rfl⟩ : ∃ m, k = m + 4 := ⟨k - 4, by omega⟩
      show R.cowrieref09_one.l0 (k + 3 + 1) x N8 O8 0 = _
      rw [R.cowrieref09_one.l0, if_pos (by omega), show k + 3 = k + 2 + 1 from rfl, R.cowrieref09_one.j1, if_neg (by rw [decide_eq_false (by omega)]; decide), show k + 2 = k + 1 + 1 from rfl, R.cowrieref09_one.l1, if_pos (by decide), if_neg (by rw [show wrap64 ((0 : Int) + 1) = 1 from by unfold wrap64; omega]; omega)]
      exact r_j3 k 0 0 (by decide) (by decide)
  · have hx1 : 1 < x.size := by omega
    obtain ⟨ro, hgo, hro⟩ := oct x 3 0 0 (by decide) (by decide) (by omega)
    have hq : Q.printf_escape.j0 8 x (decide ((x.size : Int) < 2)) = (strings_IndexByte.f N8 (bt x 1)).bind fun t103 => (if t103 ≥ 0 then (if 0 ≤ t103 then (if t103 ≤ (wrap64 (t103 + 1)) then (if (wrap64 (t103 + 1)) ≤ 8 then (some (O8.extract (t103 : Int).toNat ((wrap64 (t103 + 1)) : Int).toNat, 2)) else (none)) else (none)) else (none)) else (Q.printf_escape.l0 7 x 0 1)) := by
      rw [show (8 : Nat) = 7 + 1 from rfl, Q.printf_escape.j0, if_neg (by rw [decide_eq_false (by omega)]; decide), if_pos (by omega)]
      rfl
    have hr := bt_range x 1
    obtain ⟨c, hc⟩ : ∃ c : Nat, bt x 1 = (c : Int) := ⟨(bt x 1).toNat, by omega⟩
    have hc256 : c < 256 := by omega
    have hid := idx8 ⟨c, hc256⟩
    rw [hq, hc, show strings_IndexByte.f N8 (c : Int) = _ from hid, Option.bind_some]
    clear hq hid hhp
    have hb : ∀ i : Nat, (h : i < 8) → bt N8 (i : Int) = ((N8.data.toList.getD i 0).toNat : Int) := fun i h => n8 ⟨i, h⟩
    have b0 : bt N8 ((0 : Nat) : Int) = 92 := hb 0 (by decide)
    have b1 : bt N8 ((1 : Nat) : Int) = 97 := hb 1 (by decide)
    have b2 : bt N8 ((2 : Nat) : Int) = 98 := hb 2 (by decide)
    have b3 : bt N8 ((3 : Nat) : Int) = 102 := hb 3 (by decide)
    have b4 : bt N8 ((4 : Nat) : Int) = 110 := hb 4 (by decide)
    have b5 : bt N8 ((5 : Nat) : Int) = 114 := hb 5 (by decide)
    have b6 : bt N8 ((6 : Nat) : Int) = 116 := hb 6 (by decide)
    have b7 : bt N8 ((7 : Nat) : Int) = 118 := hb 7 (by decide)
    by_cases e0 : c = 92
    · refine ⟨(O8.extract 0 1, 2), ⟨by decide, by show (2 : Int) ≤ x.size; omega, by decide +kernel⟩, ?_, fun k hk => ?_⟩
      · rw [show (if (((⟨c, hc256⟩ : Fin 256) : Nat)) = 92 then (0 : Int) else if (((⟨c, hc256⟩ : Fin 256) : Nat)) = 97 then 1 else if (((⟨c, hc256⟩ : Fin 256) : Nat)) = 98 then 2 else if (((⟨c, hc256⟩ : Fin 256) : Nat)) = 102 then 3 else if (((⟨c, hc256⟩ : Fin 256) : Nat)) = 110 then 4 else if (((⟨c, hc256⟩ : Fin 256) : Nat)) = 114 then 5 else if (((⟨c, hc256⟩ : Fin 256) : Nat)) = 116 then 6 else if (((⟨c, hc256⟩ : Fin 256) : Nat)) = 118 then 7 else -1) = 0 from by subst e0; rfl]
        rw [if_pos (show (0 : Int) ≥ 0 by decide), if_pos (show (0 : Int) ≤ 0 by decide), show wrap64 ((0 : Int) + 1) = 1 from by unfold wrap64; omega, if_pos (show (0 : Int) ≤ 1 by decide), if_pos (show (1 : Int) ≤ 8 by decide)]
        rfl
      · obtain ⟨k, rfl⟩ : ∃ m, k = m + 2 := ⟨k - 2, by omega⟩
        show R.cowrieref09_one.l0 (k + 2) x N8 O8 ((0 : Nat) : Int) = _
        exact r_hit k x 0 (by decide) hx1 (by rw [b0, hc]; omega)
    by_cases e1 : c = 97
    · refine ⟨(O8.extract 1 2, 2), ⟨by decide, by show (2 : Int) ≤ x.size; omega, by decide +kernel⟩, ?_, fun k hk => ?_⟩
      · rw [show (if (((⟨c, hc256⟩ : Fin 256) : Nat)) = 92 then (0 : Int) else if (((⟨c, hc256⟩ : Fin 256) : Nat)) = 97 then 1 else if (((⟨c, hc256⟩ : Fin 256) : Nat)) = 98 then 2 else if (((⟨c, hc256⟩ : Fin 256) : Nat)) = 102 then 3 else if (((⟨c, hc256⟩ : Fin 256) : Nat)) = 110 then 4 else if (((⟨c, hc256⟩ : Fin 256) : Nat)) = 114 then 5 else if (((⟨c, hc256⟩ : Fin 256) : Nat)) = 116 then 6 else if (((⟨c, hc256⟩ : Fin 256) : Nat)) = 118 then 7 else -1) = 1 from by subst e1; rfl]
        rw [if_pos (show (1 : Int) ≥ 0 by decide), if_pos (show (0 : Int) ≤ 1 by decide), show wrap64 ((1 : Int) + 1) = 2 from by unfold wrap64; omega, if_pos (show (1 : Int) ≤ 2 by decide), if_pos (show (2 : Int) ≤ 8 by decide)]
        rfl
      · obtain ⟨k, rfl⟩ : ∃ m, k = m + 4 := ⟨k - 4, by omega⟩
        show R.cowrieref09_one.l0 (k + 4) x N8 O8 ((0 : Nat) : Int) = _
        rw [r_miss (k + 2) x 0 (by decide) hx1 (by rw [b0, hc]; omega)]
        exact r_hit k x 1 (by decide) hx1 (by rw [b1, hc]; omega)
    by_cases e2 : c = 98
    · refine ⟨(O8.extract 2 3, 2), ⟨by decide, by show (2 : Int) ≤ x.size; omega, by decide +kernel⟩, ?_, fun k hk => ?_⟩
      · rw [show (if (((⟨c, hc256⟩ : Fin 256) : Nat)) = 92 then (0 : Int) else if (((⟨c, hc256⟩ : Fin 256) : Nat)) = 97 then 1 else if (((⟨c, hc256⟩ : Fin 256) : Nat)) = 98 then 2 else if (((⟨c, hc256⟩ : Fin 256) : Nat)) = 102 then 3 else if (((⟨c, hc256⟩ : Fin 256) : Nat)) = 110 then 4 else if (((⟨c, hc256⟩ : Fin 256) : Nat)) = 114 then 5 else if (((⟨c, hc256⟩ : Fin 256) : Nat)) = 116 then 6 else if (((⟨c, hc256⟩ : Fin 256) : Nat)) = 118 then 7 else -1) = 2 from by subst e2; rfl]
        rw [if_pos (show (2 : Int) ≥ 0 by decide), if_pos (show (0 : Int) ≤ 2 by decide), show wrap64 ((2 : Int) + 1) = 3 from by unfold wrap64; omega, if_pos (show (2 : Int) ≤ 3 by decide), if_pos (show (3 : Int) ≤ 8 by decide)]
        rfl
      · obtain ⟨k, rfl⟩ : ∃ m, k = m + 6 := ⟨k - 6, by omega⟩
        show R.cowrieref09_one.l0 (k + 6) x N8 O8 ((0 : Nat) : Int) = _
        rw [r_miss (k + 4) x 0 (by decide) hx1 (by rw [b0, hc]; omega)]
        rw [r_miss (k + 2) x 1 (by decide) hx1 (by rw [b1, hc]; omega)]
        exact r_hit k x 2 (by decide) hx1 (by rw [b2, hc]; omega)
    by_cases e3 : c = 102
    · refine ⟨(O8.extract 3 4, 2), ⟨by decide, by show (2 : Int) ≤ x.size; omega, by decide +kernel⟩, ?_, fun k hk => ?_⟩
      · rw [show (if (((⟨c, hc256⟩ : Fin 256) : Nat)) = 92 then (0 : Int) else if (((⟨c, hc256⟩ : Fin 256) : Nat)) = 97 then 1 else if (((⟨c, hc256⟩ : Fin 256) : Nat)) = 98 then 2 else if (((⟨c, hc256⟩ : Fin 256) : Nat)) = 102 then 3 else if (((⟨c, hc256⟩ : Fin 256) : Nat)) = 110 then 4 else if (((⟨c, hc256⟩ : Fin 256) : Nat)) = 114 then 5 else if (((⟨c, hc256⟩ : Fin 256) : Nat)) = 116 then 6 else if (((⟨c, hc256⟩ : Fin 256) : Nat)) = 118 then 7 else -1) = 3 from by subst e3; rfl]
        rw [if_pos (show (3 : Int) ≥ 0 by decide), if_pos (show (0 : Int) ≤ 3 by decide), show wrap64 ((3 : Int) + 1) = 4 from by unfold wrap64; omega, if_pos (show (3 : Int) ≤ 4 by decide), if_pos (show (4 : Int) ≤ 8 by decide)]
        rfl
      · obtain ⟨k, rfl⟩ : ∃ m, k = m + 8 := ⟨k - 8, by omega⟩
        show R.cowrieref09_one.l0 (k + 8) x N8 O8 ((0 : Nat) : Int) = _
        rw [r_miss (k + 6) x 0 (by decide) hx1 (by rw [b0, hc]; omega)]
        rw [r_miss (k + 4) x 1 (by decide) hx1 (by rw [b1, hc]; omega)]
        rw [r_miss (k + 2) x 2 (by decide) hx1 (by rw [b2, hc]; omega)]
        exact r_hit k x 3 (by decide) hx1 (by rw [b3, hc]; omega)
    by_cases e4 : c = 110
    · refine ⟨(O8.extract 4 5, 2), ⟨by decide, by show (2 : Int) ≤ x.size; omega, by decide +kernel⟩, ?_, fun k hk => ?_⟩
      · rw [show (if (((⟨c, hc256⟩ : Fin 256) : Nat)) = 92 then (0 : Int) else if (((⟨c, hc256⟩ : Fin 256) : Nat)) = 97 then 1 else if (((⟨c, hc256⟩ : Fin 256) : Nat)) = 98 then 2 else if (((⟨c, hc256⟩ : Fin 256) : Nat)) = 102 then 3 else if (((⟨c, hc256⟩ : Fin 256) : Nat)) = 110 then 4 else if (((⟨c, hc256⟩ : Fin 256) : Nat)) = 114 then 5 else if (((⟨c, hc256⟩ : Fin 256) : Nat)) = 116 then 6 else if (((⟨c, hc256⟩ : Fin 256) : Nat)) = 118 then 7 else -1) = 4 from by subst e4; rfl]
        rw [if_pos (show (4 : Int) ≥ 0 by decide), if_pos (show (0 : Int) ≤ 4 by decide), show wrap64 ((4 : Int) + 1) = 5 from by unfold wrap64; omega, if_pos (show (4 : Int) ≤ 5 by decide), if_pos (show (5 : Int) ≤ 8 by decide)]
        rfl
      · obtain ⟨k, rfl⟩ : ∃ m, k = m + 10 := ⟨k - 10, by omega⟩
        show R.cowrieref09_one.l0 (k + 10) x N8 O8 ((0 : Nat) : Int) = _
        rw [r_miss (k + 8) x 0 (by decide) hx1 (by rw [b0, hc]; omega)]
        rw [r_miss (k + 6) x 1 (by decide) hx1 (by rw [b1, hc]; omega)]
        rw [r_miss (k + 4) x 2 (by decide) hx1 (by rw [b2, hc]; omega)]
        rw [r_miss (k + 2) x 3 (by decide) hx1 (by rw [b3, hc]; omega)]
        exact r_hit k x 4 (by decide) hx1 (by rw [b4, hc]; omega)
    by_cases e5 : c = 114
    · refine ⟨(O8.extract 5 6, 2), ⟨by decide, by show (2 : Int) ≤ x.size; omega, by decide +kernel⟩, ?_, fun k hk => ?_⟩
      · rw [show (if (((⟨c, hc256⟩ : Fin 256) : Nat)) = 92 then (0 : Int) else if (((⟨c, hc256⟩ : Fin 256) : Nat)) = 97 then 1 else if (((⟨c, hc256⟩ : Fin 256) : Nat)) = 98 then 2 else if (((⟨c, hc256⟩ : Fin 256) : Nat)) = 102 then 3 else if (((⟨c, hc256⟩ : Fin 256) : Nat)) = 110 then 4 else if (((⟨c, hc256⟩ : Fin 256) : Nat)) = 114 then 5 else if (((⟨c, hc256⟩ : Fin 256) : Nat)) = 116 then 6 else if (((⟨c, hc256⟩ : Fin 256) : Nat)) = 118 then 7 else -1) = 5 from by subst e5; rfl]
        rw [if_pos (show (5 : Int) ≥ 0 by decide), if_pos (show (0 : Int) ≤ 5 by decide), show wrap64 ((5 : Int) + 1) = 6 from by unfold wrap64; omega, if_pos (show (5 : Int) ≤ 6 by decide), if_pos (show (6 : Int) ≤ 8 by decide)]
        rfl
      · obtain ⟨k, rfl⟩ : ∃ m, k = m + 12 := ⟨k - 12, by omega⟩
        show R.cowrieref09_one.l0 (k + 12) x N8 O8 ((0 : Nat) : Int) = _
        rw [r_miss (k + 10) x 0 (by decide) hx1 (by rw [b0, hc]; omega)]
        rw [r_miss (k + 8) x 1 (by decide) hx1 (by rw [b1, hc]; omega)]
        rw [r_miss (k + 6) x 2 (by decide) hx1 (by rw [b2, hc]; omega)]
        rw [r_miss (k + 4) x 3 (by decide) hx1 (by rw [b3, hc]; omega)]
        rw [r_miss (k + 2) x 4 (by decide) hx1 (by rw [b4, hc]; omega)]
        exact r_hit k x 5 (by decide) hx1 (by rw [b5, hc]; omega)
    by_cases e6 : c = 116
    · refine ⟨(O8.extract 6 7, 2), ⟨by decide, by show (2 : Int) ≤ x.size; omega, by decide +kernel⟩, ?_, fun k hk => ?_⟩
      · rw [show (if (((⟨c, hc256⟩ : Fin 256) : Nat)) = 92 then (0 : Int) else if (((⟨c, hc256⟩ : Fin 256) : Nat)) = 97 then 1 else if (((⟨c, hc256⟩ : Fin 256) : Nat)) = 98 then 2 else if (((⟨c, hc256⟩ : Fin 256) : Nat)) = 102 then 3 else if (((⟨c, hc256⟩ : Fin 256) : Nat)) = 110 then 4 else if (((⟨c, hc256⟩ : Fin 256) : Nat)) = 114 then 5 else if (((⟨c, hc256⟩ : Fin 256) : Nat)) = 116 then 6 else if (((⟨c, hc256⟩ : Fin 256) : Nat)) = 118 then 7 else -1) = 6 from by subst e6; rfl]
        rw [if_pos (show (6 : Int) ≥ 0 by decide), if_pos (show (0 : Int) ≤ 6 by decide), show wrap64 ((6 : Int) + 1) = 7 from by unfold wrap64; omega, if_pos (show (6 : Int) ≤ 7 by decide), if_pos (show (7 : Int) ≤ 8 by decide)]
        rfl
      · obtain ⟨k, rfl⟩ : ∃ m, k = m + 14 := ⟨k - 14, by omega⟩
        show R.cowrieref09_one.l0 (k + 14) x N8 O8 ((0 : Nat) : Int) = _
        rw [r_miss (k + 12) x 0 (by decide) hx1 (by rw [b0, hc]; omega)]
        rw [r_miss (k + 10) x 1 (by decide) hx1 (by rw [b1, hc]; omega)]
        rw [r_miss (k + 8) x 2 (by decide) hx1 (by rw [b2, hc]; omega)]
        rw [r_miss (k + 6) x 3 (by decide) hx1 (by rw [b3, hc]; omega)]
        rw [r_miss (k + 4) x 4 (by decide) hx1 (by rw [b4, hc]; omega)]
        rw [r_miss (k + 2) x 5 (by decide) hx1 (by rw [b5, hc]; omega)]
        exact r_hit k x 6 (by decide) hx1 (by rw [b6, hc]; omega)
    by_cases e7 : c = 118
    · refine ⟨(O8.extract 7 8, 2), ⟨by decide, by show (2 : Int) ≤ x.size; omega, by decide +kernel⟩, ?_, fun k hk => ?_⟩
      · rw [show (if (((⟨c, hc256⟩ : Fin 256) : Nat)) = 92 then (0 : Int) else if (((⟨c, hc256⟩ : Fin 256) : Nat)) = 97 then 1 else if (((⟨c, hc256⟩ : Fin 256) : Nat)) = 98 then 2 else if (((⟨c, hc256⟩ : Fin 256) : Nat)) = 102 then 3 else if (((⟨c, hc256⟩ : Fin 256) : Nat)) = 110 then 4 else if (((⟨c, hc256⟩ : Fin 256) : Nat)) = 114 then 5 else if (((⟨c, hc256⟩ : Fin 256) : Nat)) = 116 then 6 else if (((⟨c, hc256⟩ : Fin 256) : Nat)) = 118 then 7 else -1) = 7 from by subst e7; rfl]
        rw [if_pos (show (7 : Int) ≥ 0 by decide), if_pos (show (0 : Int) ≤ 7 by decide), show wrap64 ((7 : Int) + 1) = 8 from by unfold wrap64; omega, if_pos (show (7 : Int) ≤ 8 by decide), if_pos (show (8 : Int) ≤ 8 by decide)]
        rfl
      · obtain ⟨k, rfl⟩ : ∃ m, k = m + 16 := ⟨k - 16, by omega⟩
        show R.cowrieref09_one.l0 (k + 16) x N8 O8 ((0 : Nat) : Int) = _
        rw [r_miss (k + 14) x 0 (by decide) hx1 (by rw [b0, hc]; omega)]
        rw [r_miss (k + 12) x 1 (by decide) hx1 (by rw [b1, hc]; omega)]
        rw [r_miss (k + 10) x 2 (by decide) hx1 (by rw [b2, hc]; omega)]
        rw [r_miss (k + 8) x 3 (by decide) hx1 (by rw [b3, hc]; omega)]
        rw [r_miss (k + 6) x 4 (by decide) hx1 (by rw [b4, hc]; omega)]
        rw [r_miss (k + 4) x 5 (by decide) hx1 (by rw [b5, hc]; omega)]
        rw [r_miss (k + 2) x 6 (by decide) hx1 (by rw [b6, hc]; omega)]
        exact r_hit k x 7 (by decide) hx1 (by rw [b7, hc]; omega)
    refine ⟨ro, hgo, ?_, fun k hk => ?_⟩
    · rw [show (if (((⟨c, hc256⟩ : Fin 256) : Nat)) = 92 then (0 : Int) else if (((⟨c, hc256⟩ : Fin 256) : Nat)) = 97 then 1 else if (((⟨c, hc256⟩ : Fin 256) : Nat)) = 98 then 2 else if (((⟨c, hc256⟩ : Fin 256) : Nat)) = 102 then 3 else if (((⟨c, hc256⟩ : Fin 256) : Nat)) = 110 then 4 else if (((⟨c, hc256⟩ : Fin 256) : Nat)) = 114 then 5 else if (((⟨c, hc256⟩ : Fin 256) : Nat)) = 116 then 6 else if (((⟨c, hc256⟩ : Fin 256) : Nat)) = 118 then 7 else -1) = -1 from by rw [if_neg e0, if_neg e1, if_neg e2, if_neg e3, if_neg e4, if_neg e5, if_neg e6, if_neg e7], if_neg (by decide)]
      exact (hro 7 (by decide)).1
    · obtain ⟨k, rfl⟩ : ∃ m, k = m + 18 := ⟨k - 18, by omega⟩
      show R.cowrieref09_one.l0 (k + 18) x N8 O8 ((0 : Nat) : Int) = _
      rw [r_miss (k + 16) x 0 (by decide) hx1 (by rw [b0, hc]; omega)]
      rw [r_miss (k + 14) x 1 (by decide) hx1 (by rw [b1, hc]; omega)]
      rw [r_miss (k + 12) x 2 (by decide) hx1 (by rw [b2, hc]; omega)]
      rw [r_miss (k + 10) x 3 (by decide) hx1 (by rw [b3, hc]; omega)]
      rw [r_miss (k + 8) x 4 (by decide) hx1 (by rw [b4, hc]; omega)]
      rw [r_miss (k + 6) x 5 (by decide) hx1 (by rw [b5, hc]; omega)]
      rw [r_miss (k + 4) x 6 (by decide) hx1 (by rw [b6, hc]; omega)]
      rw [r_miss (k + 2) x 7 (by decide) hx1 (by rw [b7, hc]; omega)]
      rw [show (((7 + 1 : Nat)) : Int) = 8 from rfl, r_end k x hx1]
      exact (hro k (by omega)).2
end Go.Proofs.YtagdkbncfcdhdaaDoor.PureT

/- What the document's conversion (cowrieref09.conversion) answers: what printf.conversion (as the print tells it) answers of the text behind its first octet. Condition: at most 10 to the 9 octets, one at least. -/
import Derived.Test.YtagdkbncfcdhdaaDoorVQ2
import Derived.Test.YtagdkbncfcdhdaaDoorVFormat9
import Derived.Deep.RegionWith
set_option linter.unusedVariables false
namespace Go.Proofs.YtagdkbncfcdhdaaDoor.Ext
open Go.RowKit Go.Proofs.YtagdkbncfcdhdaaDoorW.PrintWords
/-- What the document tells of what the program tells. -/
def convOf (r : Int × Int × Int × Int × Bool) : Int × Bool × Bool × Int × Int :=
  if r.2.2.2.2 = true then (r.1, r.2.1 == 45, r.2.1 == 48, r.2.2.1, wrap64 (r.2.2.2.1 + 1)) else (0, false, false, 0, 0)
def aggOf (r : Int × Bool × Bool × Int × Int) : Value := .agg #[.int .u8 r.1, .bool r.2.1, .bool r.2.2.1, .int .i64 r.2.2.2.1, .int .i64 r.2.2.2.2]
def cowrieref09_conversion.f (x : ByteArray) : Option (Int × Bool × Bool × Int × Int) :=
  if 1 ≤ x.size ∧ x.size ≤ 1000000000 then (Q.printf_conversion.f 20 (x.extract 1 x.size)).map convOf else none
/-- Behind the digits. -/
def convTail (y : ByteArray) (n fl wd : Int) : Option (Int × Int × Int × Int × Bool) :=
  if n = (y.size : Int) then some (0, 0, 0, 0, false) else (strings_IndexByte.f (⟨#[115, 98, 100, 99, 120, 111]⟩ : ByteArray) (bt y n)).bind fun t => if t < 0 then some (0, 0, 0, 0, false) else some (bt y n, fl, wd, wrap64 (n + 1), true)
theorem tail_y (x : ByteArray) (j : Nat) (h : j + 1 < x.size) : bt (x.extract 1 x.size) (j : Int) = bt x ((j + 1 : Nat) : Int) := by
  have hy : j < (x.extract 1 x.size).size := by rw [ByteArray.size_extract]; omega
  rw [← bt_at (x.extract 1 x.size) j (by rw [Int.toNat_natCast]; exact hy), ← bt_at x ((j + 1 : Nat) : Int) (by rw [Int.toNat_natCast]; exact h)]
  simp only [Int.toNat_natCast, ByteArray.getElem_extract]
  congr 3
  omega
theorem y_size (x : ByteArray) (h : 1 ≤ x.size) : ((x.extract 1 x.size).size : Int) = (x.size : Int) - 1 := by
  rw [ByteArray.size_extract]
  omega
theorem w2 (n : Nat) (h : n ≤ 1000000000) : wrap64 (wrap64 ((n : Int) + 1) + 1) = ((n + 1 : Nat) : Int) + 1 := by unfold wrap64; omega
theorem q_exit (kq : Nat) (y : ByteArray) (n k : Nat) (fl wd : Int) (R) (hn : n ≤ y.size) (h : ¬ ((k : Int) < 3 ∧ (n : Int) < (y.size : Int) ∧ 48 ≤ bt y n ∧ bt y n ≤ 57)) (hq : Q.printf_conversion.l0 kq y n k 0 fl wd = some R) : convTail y n fl wd = some R := by
  cases kq with
  | zero => cases hq
  | succ kq =>
  rw [Q.printf_conversion.l0] at hq
  unfold convTail
  have h0 : (0 : Int) ≤ (n : Int) := Int.natCast_nonneg _
  by_cases h3 : (k : Int) < 3
  · rw [if_pos h3] at hq
    by_cases hs : (n : Int) < (y.size : Int)
    · rw [if_pos hs, if_pos h0] at hq
      by_cases h48 : bt y n ≥ 48
      · rw [if_pos h48] at hq
        by_cases h57 : bt y n ≤ 57
        · exact absurd ⟨h3, hs, h48, h57⟩ h
        · rw [if_neg h57] at hq
          exact hq
      · rw [if_neg h48] at hq
        exact hq
    · rw [if_neg hs] at hq
      have he : (n : Int) = (y.size : Int) := by omega
      rw [if_pos he] at hq ⊢
      exact hq
  · rw [if_neg h3] at hq
    by_cases he : (n : Int) = (y.size : Int)
    · rw [if_pos he] at hq ⊢
      exact hq
    · rw [if_neg he, if_pos h0, if_pos (by omega)] at hq
      rw [if_neg he]
      exact hq
theorem q_next (kq : Nat) (y : ByteArray) (n k : Nat) (fl wd : Int) (R) (h : (k : Int) < 3 ∧ (n : Int) < (y.size : Int) ∧ 48 ≤ bt y n ∧ bt y n ≤ 57) (hs : n ≤ 1000000000) (hq : Q.printf_conversion.l0 kq y n k 0 fl wd = some R) :
    ∃ m, Q.printf_conversion.l0 m y ((n + 1 : Nat) : Int) ((k + 1 : Nat) : Int) 0 fl (wrap64 ((wrap64 (10 * wd)) + (((bt y n) - 48) % 256))) = some R := by
  cases kq with
  | zero => cases hq
  | succ kq =>
  refine ⟨kq, ?_⟩
  have h0 : (0 : Int) ≤ (n : Int) := Int.natCast_nonneg _
  rw [Q.printf_conversion.l0, if_pos h.1, if_pos h.2.1, if_pos h0, if_pos h.2.2.1, if_pos h.2.2.2, show wrap64 ((n : Int) + 1) = ((n + 1 : Nat) : Int) from by unfold wrap64; omega, show wrap64 ((k : Int) + 1) = ((k + 1 : Nat) : Int) from by have := h.1; unfold wrap64; omega] at hq
  exact hq
theorem idx6 : ∀ c : Fin 256, strings_IndexByte.f (⟨#[115, 98, 100, 99, 120, 111]⟩ : ByteArray) ((c : Nat) : Int) = some (if (c : Nat) = 115 then 0 else if (c : Nat) = 98 then 1 else if (c : Nat) = 100 then 2 else if (c : Nat) = 99 then 3 else if (c : Nat) = 120 then 4 else if (c : Nat) = 111 then 5 else -1) := by decide +kernel
theorem idx_hit (i : Nat) (h : i < 6) : ∃ v, 0 ≤ v ∧ strings_IndexByte.f (⟨#[115, 98, 100, 99, 120, 111]⟩ : ByteArray) (bt (⟨#[115, 98, 100, 99, 120, 111]⟩ : ByteArray) (i : Int)) = some v := by
  have : ∀ i : Fin 6, strings_IndexByte.f (⟨#[115, 98, 100, 99, 120, 111]⟩ : ByteArray) (bt (⟨#[115, 98, 100, 99, 120, 111]⟩ : ByteArray) ((i : Nat) : Int)) = some ((i : Nat) : Int) := by decide +kernel
  exact ⟨(i : Int), Int.natCast_nonneg _, this ⟨i, h⟩⟩
theorem idx_miss (c : Int) (h0 : 0 ≤ c ∧ c ≤ 255) (h : ∀ j : Nat, j < 6 → bt (⟨#[115, 98, 100, 99, 120, 111]⟩ : ByteArray) (j : Int) ≠ c) : strings_IndexByte.f (⟨#[115, 98, 100, 99, 120, 111]⟩ : ByteArray) c = some (-1) := by
  obtain ⟨m, rfl⟩ := Int.eq_ofNat_of_zero_le h0.1
  have hm : m < 256 := by omega
  have e0 : (115 : Int) ≠ m := h 0 (by decide)
  have e1 : (98 : Int) ≠ m := h 1 (by decide)
  have e2 : (100 : Int) ≠ m := h 2 (by decide)
  have e3 : (99 : Int) ≠ m := h 3 (by decide)
  have e4 : (120 : Int) ≠ m := h 4 (by decide)
  have e5 : (111 : Int) ≠ m := h 5 (by decide)
  have := idx6 ⟨m, hm⟩
  refine Eq.trans this ?_
  show some (if m = 115 then (0 : Int) else if m = 98 then 1 else if m = 100 then 2 else if m = 99 then 3 else if m = 120 then 4 else if m = 111 then 5 else -1) = _
  rw [if_neg (by omega), if_neg (by omega), if_neg (by omega), if_neg (by omega), if_neg (by omega), if_neg (by omega)]
set_option maxHeartbeats 4000000 in
set_option maxRecDepth 100000 in
theorem conv_pct (x : ByteArray) (w : World) (h1 : 1 < x.size) (h2 : bt x 1 = 37) :
    Calls Tryd.prog 28 #[.string x] w fun e w' => e = .returned (.agg #[.int .u8 37, .bool false, .bool false, .int .i64 0, .int .i64 2]) ∧ Below w.heap.size w w' := by
  have hx6 : ∀ h : 1 < x.size, ((x[1]'h).toNat : Int) = bt x 1 := bt_at x 1
  have g1 : decide (1 < (x.size : Int)) = true := decide_eq_true (by omega)
  have g2 : (1 < x.size) = True := eq_true h1
  have g3 : (1 < (x.size : Int)) = True := eq_true (by omega)
  have hu := Tryd.underlying55
  go_enter Tryd.func28, Tryd.ntmps28
  go_wp2_with fail
  refine bodyPost_ret (results_cell_row rfl _ _ w.heap.size 55 #[.int .u8 37, .bool false, .bool false, .int .i64 0, .int .i64 2] (0, 0) _ rfl (blk_alloc (blk_new w _) _) hu rfl (by kernel_rfl)) rfl ?_
  exact ⟨rfl, ((Below.refl _ w).alloc (Nat.le_refl _) _).alloc (by simp) _⟩
end Go.Proofs.YtagdkbncfcdhdaaDoor.Ext

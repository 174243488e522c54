/- Proved: the laws TestTexts and TestNumbers answer true, in the print's form; where the table of blanks holds what its initialiser lays. Condition: texts shorter than 2 to the 63. -/
import Derived.Test.YtdfddiehiiaepaaDoorTestLaw
import Derived.Test.YtdfddiehiiaepaaDoorParseQ
set_option linter.unusedVariables false
namespace Go.Proofs.YtdfddiehiiaepaaDoor.P
open Go.RowKit Go.Proofs.YtdfddiehiiaepaaDoor.Ext Go.Proofs.YtdfddiehiiaepaaDoorW.PrintWords

/-! ### cowrielaw10_TestTexts: function 4 -/
def cowrielaw10_TestTexts.f (a0 a1 : ByteArray) : Option Bool := some true
theorem cowrielaw10_TestTexts.calls (a0 a1 : ByteArray) (r : Bool) (w : World) (hT : Tab w) (h : cowrielaw10_TestTexts.f a0 a1 = some r) :
    Calls Tryd.prog 4 #[.string a0, .string a1] w fun e w' => e = .returned (.bool r) ∧ Below w.heap.size w w' := by
  obtain rfl : true = r := Option.some.inj h
  cases h1 : (a0.toList == a1.toList) <;> cases h2 : a0.toList.isEmpty
  · exact texts_00 a0 a1 w hT h1 h2
  · exact texts_01 a0 a1 w hT h1 h2
  · exact texts_10 a0 a1 w hT h1 h2
  · exact texts_11 a0 a1 w hT h1 h2

theorem ord_lt (x y : Int) : Q.test_order.f ⟨#[45, 108, 116]⟩ x y = some (decide (x < y)) := by
  unfold Q.test_order.f
  rw [if_neg (by decide +kernel), if_neg (by decide +kernel), if_pos (by decide +kernel)]
theorem ord_eq (x y : Int) : Q.test_order.f ⟨#[45, 101, 113]⟩ x y = some (x == y) := by
  unfold Q.test_order.f
  rw [if_pos (by decide +kernel)]
theorem ord_gt (x y : Int) : Q.test_order.f ⟨#[45, 103, 116]⟩ x y = some (decide (x > y)) := by
  unfold Q.test_order.f
  rw [if_neg (by decide +kernel), if_neg (by decide +kernel), if_neg (by decide +kernel), if_neg (by decide +kernel), if_pos (by decide +kernel)]
theorem ord_ge (x y : Int) : Q.test_order.f ⟨#[45, 103, 101]⟩ x y = some (decide (x ≥ y)) := by
  unfold Q.test_order.f
  rw [if_neg (by decide +kernel), if_neg (by decide +kernel), if_neg (by decide +kernel), if_neg (by decide +kernel), if_neg (by decide +kernel)]
theorem ord_ne (x y : Int) : Q.test_order.f ⟨#[45, 110, 101]⟩ x y = some (x != y) := by
  unfold Q.test_order.f
  rw [if_neg (by decide +kernel), if_pos (by decide +kernel)]
theorem ord_le (x y : Int) : Q.test_order.f ⟨#[45, 108, 101]⟩ x y = some (decide (x ≤ y)) := by
  unfold Q.test_order.f
  rw [if_neg (by decide +kernel), if_neg (by decide +kernel), if_neg (by decide +kernel), if_pos (by decide +kernel)]
theorem both_two (op a b : ByteArray) (p q : Int × Int) (hp : Q.number_Parse.f a = some p) (hq : Q.number_Parse.f b = some q) (h : ¬ (p.2 = 0 ∧ q.2 = 0)) : bothN op a b = some 2 := by
  unfold bothN
  rw [hp, Option.bind_some, hq, Option.bind_some, if_neg h]
theorem both_of (op a b : ByteArray) (p q : Int × Int) (o : Bool) (v : Int) (hp : Q.number_Parse.f a = some p) (hq : Q.number_Parse.f b = some q) (h : p.2 = 0 ∧ q.2 = 0) (ho : Q.test_order.f op p.1 q.1 = some o) (hv : st o = v) : bothN op a b = some v := by
  unfold bothN
  rw [hp, Option.bind_some, hq, Option.bind_some, if_pos h, ho, ← hv]
  rfl

/-! ### cowrielaw10_TestNumbers: function 5 -/
def cowrielaw10_TestNumbers.f (a0 a1 : ByteArray) : Option Bool := if a0.size ≤ 9223372036854775807 ∧ a1.size ≤ 9223372036854775807 then some true else none
theorem cowrielaw10_TestNumbers.calls (a0 a1 : ByteArray) (r : Bool) (w : World) (hT : Tab w) (h : cowrielaw10_TestNumbers.f a0 a1 = some r) :
    Calls Tryd.prog 5 #[.string a0, .string a1] w fun e w' => e = .returned (.bool r) ∧ Below w.heap.size w w' := by
  unfold cowrielaw10_TestNumbers.f at h
  split at h
  case isFalse => cases h
  rename_i hc
  obtain rfl : true = r := Option.some.inj h
  have hp := parse_spec a0 hc.1
  have hq := parse_spec a1 hc.2
  generalize parseL a0.data.toList = p at hp
  generalize parseL a1.data.toList = q at hq
  by_cases h0 : p.2 = 0 ∧ q.2 = 0
  · have B := fun op o v => both_of op a0 a1 p q o v hp hq h0
    rcases Int.lt_trichotomy p.1 q.1 with hl | hl | hl
    · exact numbers_less a0 a1 w hT (B _ _ _ (ord_lt _ _) (by rw [decide_eq_true hl]; rfl)) (B _ _ _ (ord_eq _ _) (by rw [beq_eq_false_iff_ne.2 (by omega)]; rfl)) (B _ _ _ (ord_gt _ _) (by rw [decide_eq_false (by omega)]; rfl)) (B _ _ _ (ord_ge _ _) (by rw [decide_eq_false (by omega)]; rfl)) (B _ _ _ (ord_ne _ _) (by rw [bne_iff_ne.2 (by omega)]; rfl)) (B _ _ _ (ord_le _ _) (by rw [decide_eq_true (by omega)]; rfl))
    · exact numbers_same a0 a1 w hT (B _ _ _ (ord_lt _ _) (by rw [decide_eq_false (by omega)]; rfl)) (B _ _ _ (ord_eq _ _) (by rw [beq_iff_eq.2 hl]; rfl)) (B _ _ _ (ord_gt _ _) (by rw [decide_eq_false (by omega)]; rfl)) (B _ _ _ (ord_ge _ _) (by rw [decide_eq_true (by omega)]; rfl)) (B _ _ _ (ord_ne _ _) (by rw [bne_eq_false_iff_eq.2 hl]; rfl)) (B _ _ _ (ord_le _ _) (by rw [decide_eq_true (by omega)]; rfl))
    · exact numbers_more a0 a1 w hT (B _ _ _ (ord_lt _ _) (by rw [decide_eq_false (by omega)]; rfl)) (B _ _ _ (ord_eq _ _) (by rw [beq_eq_false_iff_ne.2 (by omega)]; rfl)) (B _ _ _ (ord_gt _ _) (by rw [decide_eq_true (by omega)]; rfl)) (B _ _ _ (ord_ge _ _) (by rw [decide_eq_true (by omega)]; rfl)) (B _ _ _ (ord_ne _ _) (by rw [bne_iff_ne.2 (by omega)]; rfl)) (B _ _ _ (ord_le _ _) (by rw [decide_eq_false (by omega)]; rfl))
  · have B := fun op => both_two op a0 a1 p q hp hq h0
    exact numbers_two a0 a1 w hT (B _) (B _) (B _) (B _) (B _) (B _)
theorem TestTextsU (a0 a1 : ByteArray) : cowrielaw10_TestTexts.f a0 a1 = some true := rfl
theorem TestNumbersU (a0 a1 : ByteArray) (h0 : a0.size ≤ 1048576) (h1 : a1.size ≤ 1048576) : cowrielaw10_TestNumbers.f a0 a1 = some true := by
  unfold cowrielaw10_TestNumbers.f
  rw [if_pos ⟨by omega, by omega⟩]
end Go.Proofs.YtdfddiehiiaepaaDoor.P

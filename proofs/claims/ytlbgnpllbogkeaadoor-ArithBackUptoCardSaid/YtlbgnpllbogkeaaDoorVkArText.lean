/- Proved: arith.text's and closed's calls at an expression that may be. Conditions: its text has at most 10 to the 9 octets; the table of blanks holds what its initialiser lays. -/
import Derived.Test.YtlbgnpllbogkeaaDoorVkArBackQ
import Derived.Test.YtlbgnpllbogkeaaDoorVkArMayX
set_option linter.unusedVariables false
set_option linter.unusedSimpArgs false
namespace Go.Proofs.YtlbgnpllbogkeaaDoor.Ext
open Go.RowKit Go.Proofs.YtlbgnpllbogkeaaDoorW.PrintWords
def txB (x : E) : ByteArray := ⟨(textF x).toArray⟩
def clB (x : E) : ByteArray := ⟨(closedF x).toArray⟩
theorem txB_size (x : E) : (txB x).size = (textF x).length := by rw [Lib.size_eq]; rfl
theorem clB_size (x : E) : (clB x).size = (closedF x).length := by rw [Lib.size_eq]; rfl
/-- What text and closed are to tell. -/
def TextC (x : E) : Prop := ∀ (A : Option Addr) (c : Nat) (w : World) (ok : Nat → Prop), SumR w ok x [.string x.op, .string x.name, .int .i64 x.num, .slice A x.kids.length c] → Tab w → allF x = true → NumE x → (textF x).length ≤ 1000000000 →
    Calls Tryd.prog 27 #[sumV x A c] w fun e w' => e = .returned (.string (txB x)) ∧ Below w.heap.size w w'
def ClosedC (x : E) : Prop := ∀ (A : Option Addr) (c : Nat) (w : World) (ok : Nat → Prop), SumR w ok x [.string x.op, .string x.name, .int .i64 x.num, .slice A x.kids.length c] → Tab w → allF x = true → NumE x → (closedF x).length ≤ 1000000000 →
    Calls Tryd.prog 42 #[sumV x A c] w fun e w' => e = .returned (.string (clB x)) ∧ Below w.heap.size w w'
set_option maxHeartbeats 2000000 in
theorem closed_calls (x : E) (ih : TextC x) : ClosedC x := by
  intro A c w ok h hT ha hn hl
  have hb0 := (Below.refl _ w).alloc (Nat.le_refl _) (.cells #[.string x.op, .string x.name, .int .i64 x.num, .slice A x.kids.length c] 25)
  have HB0 := Lib.hid hb0
  by_cases h0 : x.op.size = 0
  · have e : closedF x = textF x := by unfold closedF closeL; rw [if_pos h0]
    have e2 : clB x = txB x := by unfold clB txB; rw [e]
    have e1 := emp_true h0
    rw [e] at hl
    have HC := Lib.hid (show Calls Tryd.prog 27 #[.agg #[.string x.op, .string x.name, .int .i64 x.num, .slice A x.kids.length c]] _ _ from ih A c _ ok (h.bel hb0) (hT.below hb0) ha hn hl)
    rw [e2]
    generalize txB x = b at *
    clear h hb0 ih hT ha hn hl h0 e e2
    go_enter Tryd.func42, Tryd.ntmps42
    go_wp2_with fail
    refine HC.out.mono ?_
    rintro e w1 ⟨rfl, hb1⟩
    have HB1 := Lib.hid (below_step HB0.out hb1)
    clear hb1
    go_wp2_with fail
    go_ret
    exact ⟨rfl, HB1.out⟩
  · have e : closedF x = 40 :: (textF x ++ [41]) := by unfold closedF closeL; rw [if_neg h0]
    have e1 := emp_false h0
    rw [e] at hl
    simp only [List.length_cons, List.length_append, List.length_nil] at hl
    have e2 : clB x = ⟨#[40]⟩ ++ txB x ++ ⟨#[41]⟩ := by
      apply ba_eq
      rw [app_list, app_list]
      show closedF x = _
      rw [e]
      rfl
    have HC := Lib.hid (show Calls Tryd.prog 27 #[.agg #[.string x.op, .string x.name, .int .i64 x.num, .slice A x.kids.length c]] _ _ from ih A c _ ok (h.bel hb0) (hT.below hb0) ha hn (by omega))
    have hz : (txB x).size ≤ 1000000000 := by rw [txB_size]; omega
    rw [e2]
    generalize txB x = b at *
    have hc1 : (⟨#[40]⟩ : ByteArray).size + b.size ≤ 9223372036854775807 := by show 1 + b.size ≤ _; omega
    have hc2 : ((⟨#[40]⟩ : ByteArray) ++ b).size + (⟨#[41]⟩ : ByteArray).size ≤ 9223372036854775807 := by rw [app_size]; show 1 + b.size + 1 ≤ _; omega
    clear h hb0 ih hT ha hn hl h0 e e2 hz
    go_enter Tryd.func42, Tryd.ntmps42
    go_wp2_with fail
    refine HC.out.mono ?_
    rintro e w1 ⟨rfl, hb1⟩
    have HB1 := Lib.hid (below_step HB0.out hb1)
    clear hb1
    go_wp2_with fail
    go_ret
    exact ⟨rfl, HB1.out⟩
set_option maxHeartbeats 2000000 in
theorem text_leaf (x : E) (h0 : x.op.size = 0) : TextC x := by
  intro A c w ok h hT ha hn hl
  have hb0 := (Below.refl _ w).alloc (Nat.le_refl _) (.cells #[.string x.op, .string x.name, .int .i64 x.num, .slice A x.kids.length c] 25)
  have HB0 := Lib.hid hb0
  rcases leaf_cases (allF_inv ha).1 h0 with ⟨q, hx, ht, hnn⟩ | ⟨b, hx, hb, ht⟩
  · have hq : q < 9223372036854775808 := by have := hn.here; rw [hnn] at this; omega
    have hP := fun W => number_Print.calls (q : Int) (txB x) W (by
      unfold number_Print.f
      rw [if_pos ⟨by omega, by omega⟩]
      have : decsInt (q : Int) = textF x := by
        rw [ht]
        unfold decsInt
        rw [if_neg (by omega)]
        rfl
      rw [this]
      rfl)
    have HP := Lib.hid hP
    subst hx
    generalize txB (numE q) = tb at *
    clear h hT ha hn hl ht hnn hb0 h0
    show Calls Tryd.prog 27 #[.agg #[.string ⟨#[]⟩, .string ⟨#[]⟩, .int .i64 q, .slice A 0 c]] w _
    go_enter Tryd.func27, Tryd.ntmps27
    go_wp2_with fail
    refine (HP.out _).mono ?_
    rintro e w1 ⟨rfl, hb1⟩
    have HB1 := Lib.hid (below_step HB0.out hb1)
    clear hb1
    go_wp2_with fail
    go_ret
    exact ⟨rfl, HB1.out⟩
  · have hne := name_pos hb
    have e1 := emp_false (show ¬ b.size = 0 by omega)
    have hbx : b = txB x := ba_eq ht.symm
    rw [← hbx]
    subst hx
    clear h hT ha hn hl ht hb hb0 h0 hbx hne
    show Calls Tryd.prog 27 #[.agg #[.string ⟨#[]⟩, .string b, .int .i64 0, .slice A 0 c]] w _
    go_enter Tryd.func27, Tryd.ntmps27
    go_wp2_with fail
    go_ret
    exact ⟨rfl, HB0.out⟩
end Go.Proofs.YtlbgnpllbogkeaaDoor.Ext

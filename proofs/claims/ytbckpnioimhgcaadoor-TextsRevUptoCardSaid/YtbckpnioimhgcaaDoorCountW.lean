/- Proved: what texts.Count's call answers: newlines, words (counted octet by octet), octets. Condition: the text is of at most 10 to the 9 octets. -/
import Derived.Test.YtbckpnioimhgcaaDoorCount
import Derived.Test.YtbckpnioimhgcaaDoorStr
import Derived.Shelf.GgClosure.Gives
set_option linter.unusedVariables false
namespace Go.Proofs.YtbckpnioimhgcaaDoor.Ext
open Go.RowKit Go.Proofs.YtbckpnioimhgcaaDoorW.PrintWords

theorem blank_fn (w : World) : PredAt Tryd.prog 25 #[] encR blankN w := fun W r _ => by
  unfold FnGives blankN
  by_cases h1 : r = 32
  · subst h1
    go_enter Tryd.func25, Tryd.ntmps25
    go_wp2
    go_ret
    exact ⟨rfl, 0, rfl⟩
  by_cases h2 : r = 9
  · subst h2
    go_enter Tryd.func25, Tryd.ntmps25
    go_wp2
    go_ret
    exact ⟨rfl, 0, rfl⟩
  by_cases h3 : r = 10
  · subst h3
    go_enter Tryd.func25, Tryd.ntmps25
    go_wp2
    go_ret
    exact ⟨rfl, 0, rfl⟩
  by_cases h4 : r = 13
  · subst h4
    go_enter Tryd.func25, Tryd.ntmps25
    go_wp2
    go_ret
    exact ⟨rfl, 0, rfl⟩
  have z1 : ((r : Int) == 32) = false := beq_eq_false_iff_ne.2 (by omega)
  have z2 : ((r : Int) == 9) = false := beq_eq_false_iff_ne.2 (by omega)
  have z3 : ((r : Int) == 10) = false := beq_eq_false_iff_ne.2 (by omega)
  have z4 : ((r : Int) == 13) = false := beq_eq_false_iff_ne.2 (by omega)
  rw [decide_eq_false h1, decide_eq_false h2, decide_eq_false h3, decide_eq_false h4]
  go_enter Tryd.func25, Tryd.ntmps25
  go_wp2
  go_ret
  exact ⟨rfl, 0, rfl⟩

def texts_Count.f (s : ByteArray) : Option (Int × Int × Int) :=
  if s.size ≤ 1000000000 then some ((s.data.toList.count 10 : Nat), (wc false s.data.toList : Nat), (s.size : Nat)) else none

set_option maxHeartbeats 2000000 in
theorem texts_Count.calls (a0 : ByteArray) (r1 r2 r3 : Int) (w : World) (h : texts_Count.f a0 = some (r1, r2, r3)) :
    Calls Tryd.prog 12 #[.string a0] w fun e w' => e = .returned (.tuple #[.int .i64 r1, .int .i64 r2, .int .i64 r3]) ∧ Below w.heap.size w w' := by
  unfold texts_Count.f at h
  split at h
  case isFalse => cases h
  rename_i hsz
  simp only [Option.some.injEq, Prod.mk.injEq] at h
  obtain ⟨rfl, rfl, rfl⟩ := h
  have HF := Lib.hid (Tryd.strings_FieldsFunc 25 #[] (enters_of Tryd.func25 (by kernel_rfl) rfl) blankN a0 w (Nat.le_trans hsz (by decide)) (blank_fn w))
  rw [fields_count] at HF
  go_enter Tryd.func12, Tryd.ntmps12
  go_wp2_with fail
  refine HF.out.mono ?_
  rintro e w' ⟨A, rfl, _, _, hb⟩
  have HB := Lib.hid hb
  clear hb HF
  go_wp2_with fail
  refine (Tryd.strings_Count_one a0 10 _).mono ?_
  rintro e w2 ⟨rfl, rfl⟩
  go_wp2_with fail
  go_ret3
  exact ⟨rfl, HB.out⟩

end Go.Proofs.YtbckpnioimhgcaaDoor.Ext

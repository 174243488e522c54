/- Proved: octets.Digits' call. Condition: texts of at most 10 to the 9 octets. -/
import Derived.Test.YtciflnnagkdjiaaDoorVsAny
import Derived.Test.YtciflnnagkdjiaaDoorVsQ1
set_option linter.unusedVariables false
namespace Go.Proofs.YtciflnnagkdjiaaDoor.Ext
open Go.RowKit Go.Proofs.YtciflnnagkdjiaaDoorW.PrintWords
def digitB (c : Nat) : Bool := (Q.octets_digit.f (c : Int)).getD false
theorem digit_some (c : Int) : ∃ b, Q.octets_digit.f c = some b := by
  unfold Q.octets_digit.f
  split <;> exact ⟨_, rfl⟩
theorem drawn_below {w w' : World} (h : Drawn0 w w') : Below w.heap.size w w' := by
  obtain ⟨n, rfl⟩ := h
  exact pw_below_drewN (Below.refl _ _) n
theorem digit_at (c : UInt8) (w : World) : Calls Tryd.prog 65 #[.int .u8 c.toNat] w fun e w' => e = .returned (.bool (digitB c.toNat)) ∧ Below w.heap.size w w' := by
  obtain ⟨b, hb⟩ := digit_some (c.toNat : Int)
  refine (Q.octets_digit.calls _ b w hb).mono ?_
  rintro e w' ⟨rfl, hd⟩
  exact ⟨by unfold digitB; rw [hb]; rfl, drawn_below hd⟩
theorem digit_fn (w : World) : Pred 65 #[] digitB w := fun W c _ => digit_at c W
def octets_Digits.f (s : ByteArray) : Option Bool := if s.size ≤ 1000000000 then some (everyB digitB s) else none
set_option maxHeartbeats 1000000 in
theorem octets_Digits.calls (a0 : ByteArray) (r : Bool) (w : World) (h : octets_Digits.f a0 = some r) :
    Calls Tryd.prog 55 #[.string a0] w fun e w' => e = .returned (.bool r) ∧ Below w.heap.size w w' := by
  unfold octets_Digits.f at h
  split at h
  case isFalse => cases h
  rename_i hsz
  obtain rfl := Option.some.inj h
  have HE := Lib.hid (every_calls 65 #[] digitB a0 w (enters_of Tryd.func65 (by kernel_rfl) rfl) (digit_fn w) hsz)
  generalize everyB digitB a0 = y at *
  clear h hsz
  go_enter Tryd.func55, Tryd.ntmps55
  go_wp2_with fail
  refine HE.out.mono ?_
  rintro e w2 ⟨rfl, hb2⟩
  have HB2 := Lib.hid hb2
  clear hb2
  go_wp2_with fail
  go_ret
  exact ⟨rfl, HB2.out⟩
end Go.Proofs.YtciflnnagkdjiaaDoor.Ext

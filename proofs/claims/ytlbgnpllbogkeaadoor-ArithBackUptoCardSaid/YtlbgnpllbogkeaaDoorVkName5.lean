/- Proved: octets.Name's call. Condition: texts of at most 10 to the 9 octets. -/
import Derived.Test.YtlbgnpllbogkeaaDoorVkAny
import Derived.Test.YtlbgnpllbogkeaaDoorVkQ1
set_option linter.unusedVariables false
namespace Go.Proofs.YtlbgnpllbogkeaaDoor.Ext
open Go.RowKit Go.Proofs.YtlbgnpllbogkeaaDoorW.PrintWords
def letterB (c : Nat) : Bool := (Q.octets_letter.f (c : Int)).getD false
def digitB (c : Nat) : Bool := (Q.octets_digit.f (c : Int)).getD false
def nameP (c : Nat) : Bool := letterB c || digitB c
theorem letter_some (c : Int) : ∃ b, Q.octets_letter.f c = some b := by
  unfold Q.octets_letter.f
  split
  · split
    · split <;> exact ⟨_, rfl⟩
    · exact ⟨_, rfl⟩
  · exact ⟨_, rfl⟩
theorem digit_some (c : Int) : ∃ b, Q.octets_digit.f c = some b := by
  unfold Q.octets_digit.f
  split <;> exact ⟨_, rfl⟩
theorem drawn_below {w w' : World} (h : Drawn0 w w') : Below w.heap.size w w' := by
  obtain ⟨n, rfl⟩ := h
  exact pw_below_drewN (Below.refl _ _) n
theorem letter_at (c : UInt8) (w : World) : Calls Tryd.prog 73 #[.int .u8 c.toNat] w fun e w' => e = .returned (.bool (letterB c.toNat)) ∧ Below w.heap.size w w' := by
  obtain ⟨b, hb⟩ := letter_some (c.toNat : Int)
  refine (Q.octets_letter.calls _ b w hb).mono ?_
  rintro e w' ⟨rfl, hd⟩
  exact ⟨by unfold letterB; rw [hb]; rfl, drawn_below hd⟩
theorem digit_at (c : UInt8) (w : World) : Calls Tryd.prog 74 #[.int .u8 c.toNat] w fun e w' => e = .returned (.bool (digitB c.toNat)) ∧ Below w.heap.size w w' := by
  obtain ⟨b, hb⟩ := digit_some (c.toNat : Int)
  refine (Q.octets_digit.calls _ b w hb).mono ?_
  rintro e w' ⟨rfl, hd⟩
  exact ⟨by unfold digitB; rw [hb]; rfl, drawn_below hd⟩
set_option maxHeartbeats 1000000 in
theorem name_fn (w : World) : Pred 72 #[] nameP w := by
  intro W c _
  unfold nameP
  have HL := Lib.hid (letter_at c)
  have HD := Lib.hid (digit_at c)
  show Calls Tryd.prog 72 #[.int .u8 c.toNat] W _
  cases h : letterB c.toNat
  · rw [h] at HL
    clear h
    generalize digitB c.toNat = y at *
    go_enter Tryd.func72, Tryd.ntmps72
    go_wp2_with fail
    refine (HL.out _).mono ?_
    rintro e w2 ⟨rfl, hb2⟩
    have HB2 := Lib.hid hb2
    clear hb2
    go_wp2_with fail
    refine (HD.out _).mono ?_
    rintro e w3 ⟨rfl, hb3⟩
    have HB3 := Lib.hid (HB2.out.trans (hb3.mono HB2.out.size))
    clear hb3
    go_wp2_with fail
    go_ret
    exact ⟨rfl, HB3.out⟩
  · rw [h] at HL
    clear h
    go_enter Tryd.func72, Tryd.ntmps72
    go_wp2_with fail
    refine (HL.out _).mono ?_
    rintro e w2 ⟨rfl, hb2⟩
    have HB2 := Lib.hid hb2
    clear hb2
    go_wp2_with fail
    go_ret
    exact ⟨rfl, HB2.out⟩
def octets_Name.f (s : ByteArray) : Option Bool := if s.size ≤ 1000000000 then some (decide (s.size ≤ 64) && (everyB nameP s && !digitB (s.data.toList.getD 0 0).toNat)) else none
set_option maxHeartbeats 2000000 in
set_option maxRecDepth 100000 in
theorem octets_Name.calls (a0 : ByteArray) (r : Bool) (w : World) (h : octets_Name.f a0 = some r) :
    Calls Tryd.prog 50 #[.string a0] w fun e w' => e = .returned (.bool r) ∧ Below w.heap.size w w' := by
  unfold octets_Name.f at h
  split at h
  case isFalse => cases h
  rename_i hsz
  obtain rfl := Option.some.inj h
  have HE := Lib.hid (every_calls 72 #[] nameP a0 w (enters_of Tryd.func72 (by kernel_rfl) rfl) (name_fn w) hsz)
  by_cases h64 : a0.size ≤ 64
  · rw [decide_eq_true h64]
    cases hy : everyB nameP a0
    · rw [hy] at HE
      clear h hsz hy
      go_enter Tryd.func50, Tryd.ntmps50
      go_wp2_with fail
      refine HE.out.mono ?_
      rintro e w2 ⟨rfl, hb2⟩
      have HB2 := Lib.hid hb2
      clear hb2
      go_wp2_with fail
      go_ret
      exact ⟨rfl, HB2.out⟩
    · have hpos : 0 < a0.size := by
        unfold everyB at hy
        rcases Nat.eq_zero_or_pos a0.size with h0 | h0
        · rw [decide_eq_true h0] at hy; cases hy
        · exact h0
      rw [hy] at HE
      have hg : a0.data.toList.getD 0 0 = a0[0] := by
        rw [List.getD_eq_getElem?_getD, List.getElem?_eq_getElem (by simpa using hpos)]
        simp
        rfl
      have HD := Lib.hid (digit_at a0[0])
      rw [hg]
      generalize digitB (a0[0]).toNat = y at *
      clear h hsz hy hg
      go_enter Tryd.func50, Tryd.ntmps50
      go_wp2_with fail
      refine HE.out.mono ?_
      rintro e w2 ⟨rfl, hb2⟩
      have HB2 := Lib.hid hb2
      clear hb2
      go_wp2_with fail
      refine (HD.out _).mono ?_
      rintro e w3 ⟨rfl, hb3⟩
      have HB3 := Lib.hid (HB2.out.trans (hb3.mono HB2.out.size))
      clear hb3
      go_wp2_with fail
      go_ret
      exact ⟨rfl, HB3.out⟩
  · rw [decide_eq_false h64]
    clear HE h hsz
    go_enter Tryd.func50, Tryd.ntmps50
    go_wp2_with fail
    go_ret
    exact ⟨rfl, Below.refl _ _⟩
end Go.Proofs.YtlbgnpllbogkeaaDoor.Ext

/- Proved: what the calls of octets.Plain, Digits, Name answer (a question on every octet), and octets.letter's and digit's. Condition: the text is of at most 10 to the 9 octets. -/
import Derived.Test.YteobnfcdlcemlaaDoorAny
import Derived.Test.YteobnfcdlcemlaaDoorQ1
import Derived.Test.YteobnfcdlcemlaaDoorQ2
set_option linter.unusedVariables false
namespace Go.Proofs.YteobnfcdlcemlaaDoor.Ext
open Go.RowKit Go.Proofs.YteobnfcdlcemlaaDoorW.PrintWords

def letterB (c : Nat) : Bool := (Q.octets_letter.f (c : Int)).getD false
def digitB (c : Nat) : Bool := (Q.octets_digit.f (c : Int)).getD false
def nameP (c : Nat) : Bool := letterB c || digitB c
def marks : ByteArray := ⟨#[95, 45, 46, 47, 58, 44, 43, 61, 64, 37]⟩
def markB (c : Nat) : Bool := decide (Lib.indexByte marks.data.toList c.toUInt8 ≥ 0)
def plainP (c : Nat) : Bool := letterB c || digitB c || markB c

theorem letter_some (c : Int) : ∃ b, Q.octets_letter.f c = some b := by
  unfold Q.octets_letter.f
  split
  · split
    · split <;> exact ⟨_, rfl⟩
    · exact ⟨_, rfl⟩
  · exact ⟨_, rfl⟩
theorem digit_some (c : Int) : ∃ b, Q.octets_digit.f c = some b := by
  unfold Q.octets_digit.f
  split <;> exact ⟨_, rfl⟩
theorem drawn_below {w w' : World} (h : Drawn0 w w') : Below w.heap.size w w' := by
  obtain ⟨n, rfl⟩ := h
  exact pw_below_drewN (Below.refl _ _) n
theorem letter_at (c : UInt8) (w : World) : Calls Tryd.prog 25 #[.int .u8 c.toNat] w fun e w' => e = .returned (.bool (letterB c.toNat)) ∧ Below w.heap.size w w' := by
  obtain ⟨b, hb⟩ := letter_some (c.toNat : Int)
  refine (Q.octets_letter.calls _ b w hb).mono ?_
  rintro e w' ⟨rfl, hd⟩
  exact ⟨by unfold letterB; rw [hb]; rfl, drawn_below hd⟩
theorem digit_at (c : UInt8) (w : World) : Calls Tryd.prog 26 #[.int .u8 c.toNat] w fun e w' => e = .returned (.bool (digitB c.toNat)) ∧ Below w.heap.size w w' := by
  obtain ⟨b, hb⟩ := digit_some (c.toNat : Int)
  refine (Q.octets_digit.calls _ b w hb).mono ?_
  rintro e w' ⟨rfl, hd⟩
  exact ⟨by unfold digitB; rw [hb]; rfl, drawn_below hd⟩

set_option maxHeartbeats 1000000 in
theorem name_fn (w : World) : Pred 28 #[] nameP w := by
  intro W c _
  unfold nameP
  have HL := Lib.hid (letter_at c)
  have HD := Lib.hid (digit_at c)
  show Calls Tryd.prog 28 #[.int .u8 c.toNat] W _
  cases h : letterB c.toNat
  · rw [h] at HL
    clear h
    generalize digitB c.toNat = y at *
    go_enter Tryd.func28, Tryd.ntmps28
    go_wp2_with fail
    refine (HL.out _).mono ?_
    rintro e w2 ⟨rfl, hb2⟩
    have HB2 := Lib.hid hb2
    clear hb2
    go_wp2_with fail
    refine (HD.out _).mono ?_
    rintro e w3 ⟨rfl, hb3⟩
    have HB3 := Lib.hid (HB2.out.trans (hb3.mono HB2.out.size))
    clear hb3
    go_wp2_with fail
    go_ret
    exact ⟨rfl, HB3.out⟩
  · rw [h] at HL
    clear h
    go_enter Tryd.func28, Tryd.ntmps28
    go_wp2_with fail
    refine (HL.out _).mono ?_
    rintro e w2 ⟨rfl, hb2⟩
    have HB2 := Lib.hid hb2
    clear hb2
    go_wp2_with fail
    go_ret
    exact ⟨rfl, HB2.out⟩

set_option maxHeartbeats 2000000 in
theorem plain_fn (w : World) : Pred 24 #[] plainP w := by
  intro W c _
  unfold plainP
  have HL := Lib.hid (letter_at c)
  have HD := Lib.hid (digit_at c)
  have hi := Lib.hid (Tryd.strings_IndexByte marks c.toNat)
  have hu : (c.toNat : Int).toNat.toUInt8 = c := by simp
  have hu2 : c.toNat.toUInt8 = c := by simp
  rw [hu] at hi
  show Calls Tryd.prog 24 #[.int .u8 c.toNat] W _
  unfold markB
  rw [hu2]
  unfold marks at *
  generalize Lib.indexByte _ c = n at *
  clear hu hu2
  cases h : letterB c.toNat
  · rw [h] at HL
    clear h
    cases h2 : digitB c.toNat
    · rw [h2] at HD
      clear h2
      go_enter Tryd.func24, Tryd.ntmps24
      go_wp2_with fail
      refine (HL.out _).mono ?_
      rintro e w2 ⟨rfl, hb2⟩
      have HB2 := Lib.hid hb2
      clear hb2
      go_wp2_with fail
      refine (HD.out _).mono ?_
      rintro e w3 ⟨rfl, hb3⟩
      have HB3 := Lib.hid (HB2.out.trans (hb3.mono HB2.out.size))
      clear hb3
      go_wp2_with fail
      refine (hi.out _).mono ?_
      rintro e w4 ⟨rfl, rfl⟩
      go_wp2_with fail
      go_ret
      exact ⟨rfl, HB3.out⟩
    · rw [h2] at HD
      clear h2
      go_enter Tryd.func24, Tryd.ntmps24
      go_wp2_with fail
      refine (HL.out _).mono ?_
      rintro e w2 ⟨rfl, hb2⟩
      have HB2 := Lib.hid hb2
      clear hb2
      go_wp2_with fail
      refine (HD.out _).mono ?_
      rintro e w3 ⟨rfl, hb3⟩
      have HB3 := Lib.hid (HB2.out.trans (hb3.mono HB2.out.size))
      clear hb3
      go_wp2_with fail
      go_ret
      exact ⟨rfl, HB3.out⟩
  · rw [h] at HL
    clear h
    go_enter Tryd.func24, Tryd.ntmps24
    go_wp2_with fail
    refine (HL.out _).mono ?_
    rintro e w2 ⟨rfl, hb2⟩
    have HB2 := Lib.hid hb2
    clear hb2
    go_wp2_with fail
    go_ret
    exact ⟨rfl, HB2.out⟩
theorem digit_fn (w : World) : Pred 26 #[] digitB w := fun W c _ => digit_at c W

def octets_Plain.f (s : ByteArray) : Option Bool := if s.size ≤ 1000000000 then some (everyB plainP s) else none
def octets_Digits.f (s : ByteArray) : Option Bool := if s.size ≤ 1000000000 then some (everyB digitB s) else none
def octets_Name.f (s : ByteArray) : Option Bool := if s.size ≤ 1000000000 then some (decide (s.size ≤ 64) && (everyB nameP s && !digitB (s.data.toList.getD 0 0).toNat)) else none

set_option maxHeartbeats 1000000 in
theorem octets_Plain.calls (a0 : ByteArray) (r : Bool) (w : World) (h : octets_Plain.f a0 = some r) :
    Calls Tryd.prog 11 #[.string a0] w fun e w' => e = .returned (.bool r) ∧ Below w.heap.size w w' := by
  unfold octets_Plain.f at h
  split at h
  case isFalse => cases h
  rename_i hsz
  obtain rfl := Option.some.inj h
  have HE := Lib.hid (every_calls 24 #[] plainP a0 w (enters_of Tryd.func24 (by kernel_rfl) rfl) (plain_fn w) hsz)
  generalize everyB plainP a0 = y at *
  clear h hsz
  go_enter Tryd.func11, Tryd.ntmps11
  go_wp2_with fail
  refine HE.out.mono ?_
  rintro e w2 ⟨rfl, hb2⟩
  have HB2 := Lib.hid hb2
  clear hb2
  go_wp2_with fail
  go_ret
  exact ⟨rfl, HB2.out⟩
set_option maxHeartbeats 1000000 in
theorem octets_Digits.calls (a0 : ByteArray) (r : Bool) (w : World) (h : octets_Digits.f a0 = some r) :
    Calls Tryd.prog 13 #[.string a0] w fun e w' => e = .returned (.bool r) ∧ Below w.heap.size w w' := by
  unfold octets_Digits.f at h
  split at h
  case isFalse => cases h
  rename_i hsz
  obtain rfl := Option.some.inj h
  have HE := Lib.hid (every_calls 26 #[] digitB a0 w (enters_of Tryd.func26 (by kernel_rfl) rfl) (digit_fn w) hsz)
  generalize everyB digitB a0 = y at *
  clear h hsz
  go_enter Tryd.func13, Tryd.ntmps13
  go_wp2_with fail
  refine HE.out.mono ?_
  rintro e w2 ⟨rfl, hb2⟩
  have HB2 := Lib.hid hb2
  clear hb2
  go_wp2_with fail
  go_ret
  exact ⟨rfl, HB2.out⟩

set_option maxHeartbeats 2000000 in
set_option maxRecDepth 100000 in
theorem octets_Name.calls (a0 : ByteArray) (r : Bool) (w : World) (h : octets_Name.f a0 = some r) :
    Calls Tryd.prog 12 #[.string a0] w fun e w' => e = .returned (.bool r) ∧ Below w.heap.size w w' := by
  unfold octets_Name.f at h
  split at h
  case isFalse => cases h
  rename_i hsz
  obtain rfl := Option.some.inj h
  have HE := Lib.hid (every_calls 28 #[] nameP a0 w (enters_of Tryd.func28 (by kernel_rfl) rfl) (name_fn w) hsz)
  by_cases h64 : a0.size ≤ 64
  · rw [decide_eq_true h64]
    cases hy : everyB nameP a0
    · rw [hy] at HE
      clear h hsz hy
      go_enter Tryd.func12, Tryd.ntmps12
      go_wp2_with fail
      refine HE.out.mono ?_
      rintro e w2 ⟨rfl, hb2⟩
      have HB2 := Lib.hid hb2
      clear hb2
      go_wp2_with fail
      go_ret
      exact ⟨rfl, HB2.out⟩
    · have hpos : 0 < a0.size := by
        unfold everyB at hy
        rcases Nat.eq_zero_or_pos a0.size with h0 | h0
        · rw [decide_eq_true h0] at hy; cases hy
        · exact h0
      rw [hy] at HE
      have hg : a0.data.toList.getD 0 0 = a0[0] := by
        rw [List.getD_eq_getElem?_getD, List.getElem?_eq_getElem (by simpa using hpos)]
        simp
        rfl
      have HD := Lib.hid (digit_at a0[0])
      rw [hg]
      generalize digitB (a0[0]).toNat = y at *
      clear h hsz hy hg
      go_enter Tryd.func12, Tryd.ntmps12
      go_wp2_with fail
      refine HE.out.mono ?_
      rintro e w2 ⟨rfl, hb2⟩
      have HB2 := Lib.hid hb2
      clear hb2
      go_wp2_with fail
      refine (HD.out _).mono ?_
      rintro e w3 ⟨rfl, hb3⟩
      have HB3 := Lib.hid (HB2.out.trans (hb3.mono HB2.out.size))
      clear hb3
      go_wp2_with fail
      go_ret
      exact ⟨rfl, HB3.out⟩
  · rw [decide_eq_false h64]
    clear HE h hsz
    go_enter Tryd.func12, Tryd.ntmps12
    go_wp2_with fail
    go_ret
    exact ⟨rfl, Below.refl _ _⟩

end Go.Proofs.YteobnfcdlcemlaaDoor.Ext

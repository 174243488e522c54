/- Proved: number.Literal's call tells the number of a text by the base that it begins with. Condition: the text is shorter than 2 to the 63. -/
import Derived.Test.YtlbgnpllbogkeaaDoorVkPr
namespace Go.Proofs.YtlbgnpllbogkeaaDoor.Ext
open Go.RowKit Go.Proofs.YtlbgnpllbogkeaaDoorW.PrintWords
def litTell : Option (Int × Bool) → Option (Int × Int)
  | none => none
  | some (n, b) => some (if b then (wrap64 n, 0) else (0, 33))
def number_Literal.f (a0 : ByteArray) : Option (Int × Int) :=
  if a0.size ≤ 9223372036854775807 then
    if 1 < a0.size ∧ bt a0 0 = 48 then
      if bt a0 1 = 120 ∨ bt a0 1 = 88 then litTell (number_digits.f (a0.extract 2 a0.size) 16)
      else litTell (number_digits.f (a0.extract 1 a0.size) 8)
    else litTell (number_digits.f a0 10)
  else none
theorem extract_twice (a : ByteArray) (i j : Nat) : (a.extract i a.size).extract j (a.size - i) = a.extract (i + j) a.size := by
  apply ByteArray.ext
  simp only [ByteArray.data_extract, Array.extract_extract]
  congr 1
  omega
theorem bt_extract (a : ByteArray) (i j : Nat) : bt (a.extract i a.size) j = bt a ((i + j : Nat) : Int) := by
  unfold bt
  simp only [Int.toNat_natCast]
  by_cases h : i + j < a.size
  · rw [dif_pos h, dif_pos (by rw [ByteArray.size_extract]; omega)]
    simp [ByteArray.getElem_extract]
  · rw [dif_neg h, dif_neg (by rw [ByteArray.size_extract]; omega)]
def LitRes (n : Int) (b : Bool) (r1 r2 : Int) : Prop := some (if b then (wrap64 n, (0 : Int)) else (0, 33)) = some (r1, r2)
theorem lit_end {x : Option (Int × Bool)} {n : Int} {b : Bool} {r1 r2 : Int} (h : litTell x = some (r1, r2)) (hx : x = some (n, b)) : LitRes n b r1 r2 := by
  subst hx
  exact h
theorem lit_true {n r1 r2 : Int} (h : LitRes n true r1 r2) : Ending.returned (.tuple #[.int .i64 (wrap64 n), .int .i64 0]) = Ending.returned (.tuple #[.int .i64 r1, .int .i64 r2]) := by
  cases h
  rfl
theorem lit_false {n r1 r2 : Int} (h : LitRes n false r1 r2) : Ending.returned (.tuple #[.int .i64 0, .int .i64 33]) = Ending.returned (.tuple #[.int .i64 r1, .int .i64 r2]) := by
  cases h
  rfl
set_option maxHeartbeats 1000000 in
theorem number_Literal.calls (a0 : ByteArray) (r1 : Int) (r2 : Int) (w : World) (h : number_Literal.f a0 = some (r1, r2)) :
    Calls Tryd.prog 49 #[.string a0] w fun e w' => e = .returned (.tuple #[.int .i64 r1, .int .i64 r2]) ∧ Below w.heap.size w w' := by
  unfold number_Literal.f at h
  split at h
  case isFalse => cases h
  rename_i hsz
  by_cases h1 : 1 < a0.size
  · have hx0 : ∀ h : 0 < a0.size, ((a0[0]'h).toNat : Int) = bt a0 0 := bt_at a0 0
    have hx1 : ∀ h : 0 < (a0.extract 1 a0.size).size, (((a0.extract 1 a0.size)[0]'h).toNat : Int) = bt a0 1 := fun h => (bt_at (a0.extract 1 a0.size) 0 h).trans (bt_extract a0 1 0)
    have he := extract_twice a0 1 1
    by_cases h2 : bt a0 0 = 48
    · rw [if_pos ⟨h1, h2⟩] at h
      have h2b : (bt a0 0 == 48) = true := by simpa using h2
      clear h2
      by_cases h3 : bt a0 1 = 120 ∨ bt a0 1 = 88
      · rw [if_pos h3] at h
        obtain ⟨⟨n, b⟩, hd⟩ : ∃ x, number_digits.f (a0.extract 2 a0.size) 16 = some x := by
          cases hx : number_digits.f (a0.extract 2 a0.size) 16 with
          | none => rw [hx] at h; cases h
          | some x => exact ⟨x, rfl⟩
        have HE := Lib.hid (lit_end h hd)
        have HC := Lib.hid (number_digits.calls (a0.extract 2 a0.size) 16 n b w hd)
        clear h hd
        by_cases h4 : bt a0 1 = 120
        · have h3b : (bt a0 1 == 120) = true := by simpa using h4
          clear h3 h4
          cases b
          all_goals
            go_enter Tryd.func49, Tryd.ntmps49
            go_wp2_with fail
            refine HC.out.mono ?_
            rintro e w' ⟨rfl, hb⟩
            go_wp2_with fail
            go_ret2
            first | exact ⟨lit_true HE.out, hb⟩ | exact ⟨lit_false HE.out, hb⟩
        · have h5 : bt a0 1 = 88 := h3.resolve_left h4
          have h3b : (bt a0 1 == 120) = false := by simpa using h4
          have h3c : (bt a0 1 == 88) = true := by simpa using h5
          clear h3 h4 h5
          cases b
          all_goals
            go_enter Tryd.func49, Tryd.ntmps49
            go_wp2_with fail
            refine HC.out.mono ?_
            rintro e w' ⟨rfl, hb⟩
            go_wp2_with fail
            go_ret2
            first | exact ⟨lit_true HE.out, hb⟩ | exact ⟨lit_false HE.out, hb⟩
      · rw [if_neg h3] at h
        obtain ⟨⟨n, b⟩, hd⟩ : ∃ x, number_digits.f (a0.extract 1 a0.size) 8 = some x := by
          cases hx : number_digits.f (a0.extract 1 a0.size) 8 with
          | none => rw [hx] at h; cases h
          | some x => exact ⟨x, rfl⟩
        have HE := Lib.hid (lit_end h hd)
        have HC := Lib.hid (number_digits.calls (a0.extract 1 a0.size) 8 n b w hd)
        clear h hd
        have h3b : (bt a0 1 == 120) = false := by simpa using fun e => h3 (.inl e)
        have h3c : (bt a0 1 == 88) = false := by simpa using fun e => h3 (.inr e)
        clear h3
        cases b
        all_goals
          go_enter Tryd.func49, Tryd.ntmps49
          go_wp2_with fail
          refine HC.out.mono ?_
          rintro e w' ⟨rfl, hb⟩
          go_wp2_with fail
          go_ret2
          first | exact ⟨lit_true HE.out, hb⟩ | exact ⟨lit_false HE.out, hb⟩
    · rw [if_neg (fun e => h2 e.2)] at h
      have h2b : (bt a0 0 == 48) = false := by simpa using h2
      clear h2
      obtain ⟨⟨n, b⟩, hd⟩ : ∃ x, number_digits.f a0 10 = some x := by
        cases hx : number_digits.f a0 10 with
        | none => rw [hx] at h; cases h
        | some x => exact ⟨x, rfl⟩
      have HE := Lib.hid (lit_end h hd)
      have HC := Lib.hid (number_digits.calls a0 10 n b w hd)
      clear h hd
      cases b
      all_goals
        go_enter Tryd.func49, Tryd.ntmps49
        go_wp2_with fail
        refine HC.out.mono ?_
        rintro e w' ⟨rfl, hb⟩
        go_wp2_with fail
        go_ret2
        first | exact ⟨lit_true HE.out, hb⟩ | exact ⟨lit_false HE.out, hb⟩
  · rw [if_neg (fun e => h1 e.1)] at h
    obtain ⟨⟨n, b⟩, hd⟩ : ∃ x, number_digits.f a0 10 = some x := by
      cases hx : number_digits.f a0 10 with
      | none => rw [hx] at h; cases h
      | some x => exact ⟨x, rfl⟩
    have HE := Lib.hid (lit_end h hd)
    have HC := Lib.hid (number_digits.calls a0 10 n b w hd)
    clear h hd
    cases b
    all_goals
      go_enter Tryd.func49, Tryd.ntmps49
      go_wp2_with fail
      refine HC.out.mono ?_
      rintro e w' ⟨rfl, hb⟩
      go_wp2_with fail
      go_ret2
      first | exact ⟨lit_true HE.out, hb⟩ | exact ⟨lit_false HE.out, hb⟩
end Go.Proofs.YtlbgnpllbogkeaaDoor.Ext

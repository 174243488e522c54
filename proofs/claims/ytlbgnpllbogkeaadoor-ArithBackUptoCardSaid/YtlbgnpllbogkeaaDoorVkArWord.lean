/- Proved: the calls of arith.part, arith.word, number.Literal, octets.Name in the forms that arith's tokens want. -/
import Derived.Test.YtlbgnpllbogkeaaDoorVkArTok
import Derived.Test.YtlbgnpllbogkeaaDoorVkArW8
set_option linter.unusedVariables false
set_option linter.unusedSimpArgs false
namespace Go.Proofs.YtlbgnpllbogkeaaDoor.Ext
open Go.RowKit Go.Proofs.YtlbgnpllbogkeaaDoorW.PrintWords
theorem part_calls (c : UInt8) (w : World) : Calls Tryd.prog 69 #[.int .u8 c.toNat] w fun e w' => e = .returned (.bool (partB c)) ∧ Below w.heap.size w w' := by
  obtain ⟨b, hb⟩ := part_some (c.toNat : Int)
  refine (Q.arith_part.calls _ b w hb).mono ?_
  rintro e w' ⟨rfl, hd⟩
  exact ⟨by unfold partB; rw [hb]; rfl, drawn_below hd⟩
theorem lit_calls : LitC litV := by
  intro b w hb
  have hs : ∃ r, number_Literal.f b = some r := by
    have key : ∀ a : ByteArray, a.size ≤ 9223372036854775807 → ∀ base : Int, 0 ≤ base → base ≤ 16 → ∃ r, litTell (number_digits.f a base) = some r := by
      intro a ha base h1 h2
      unfold number_digits.f
      rw [if_pos ⟨h1, h2, ha⟩]
      split <;> exact ⟨_, rfl⟩
    unfold number_Literal.f
    rw [if_pos (by omega)]
    split
    · split
      · exact key _ (by rw [ByteArray.size_extract]; omega) 16 (by decide) (by decide)
      · exact key _ (by rw [ByteArray.size_extract]; omega) 8 (by decide) (by decide)
    · exact key _ (by omega) 10 (by decide) (by decide)
  obtain ⟨⟨n, c⟩, hr⟩ := hs
  refine (number_Literal.calls b n c w hr).mono ?_
  rintro e w' ⟨rfl, hb'⟩
  exact ⟨⟨c, by unfold litV litOf; rw [hr]; rfl⟩, hb'⟩
theorem lit2_calls (b : ByteArray) (w : World) (hb : b.size ≤ 16384) : Calls Tryd.prog 49 #[.string b] w fun e w' => e = .returned (.tuple #[.int .i64 (litOf b).1, .int .i64 (litOf b).2]) ∧ Below w.heap.size w w' := by
  cases hr : number_Literal.f b with
  | some p =>
    obtain ⟨n, c⟩ := p
    refine (number_Literal.calls b n c w hr).mono ?_
    rintro e w' ⟨rfl, hb'⟩
    exact ⟨by unfold litOf; rw [hr]; rfl, hb'⟩
  | none =>
    exfalso
    have key : ∀ a : ByteArray, a.size ≤ 9223372036854775807 → ∀ base : Int, 0 ≤ base → base ≤ 16 → litTell (number_digits.f a base) ≠ none := by
      intro a ha base h1 h2
      unfold number_digits.f
      rw [if_pos ⟨h1, h2, ha⟩]
      split <;> (intro e; cases e)
    unfold number_Literal.f at hr
    rw [if_pos (by omega)] at hr
    split at hr
    · split at hr
      · exact key _ (by rw [ByteArray.size_extract]; omega) 16 (by decide) (by decide) hr
      · exact key _ (by rw [ByteArray.size_extract]; omega) 8 (by decide) (by decide) hr
    · exact key _ (by omega) 10 (by decide) (by decide) hr
theorem name_calls (b : ByteArray) (w : World) (hb : b.size ≤ 16384) : Calls Tryd.prog 50 #[.string b] w fun e w' => e = .returned (.bool (nameOf b)) ∧ Below w.heap.size w w' := by
  have h : octets_Name.f b = some (nameOf b) := by
    unfold nameOf octets_Name.f
    rw [if_pos (by omega)]
    rfl
  exact octets_Name.calls b _ w h
set_option maxHeartbeats 2000000 in
theorem word_calls (b : ByteArray) (w : World) (hb : b.size ≤ 16384) : Calls Tryd.prog 48 #[.string b] w fun e w' => e = .returned (.string (wordF b)) ∧ Below w.heap.size w w' := by
  unfold wordF
  have hrl := runL_le partB b.data.toList
  rw [← Lib.size_eq] at hrl
  obtain ⟨m, hm⟩ : ∃ m, runL partB b.data.toList = m := ⟨_, rfl⟩
  rw [hm] at hrl ⊢
  have HM := Lib.hid hm
  have HLE := Lib.hid hrl
  have HSZ := Lib.hid hb
  have HPC := Lib.hid part_calls
  clear hm hrl
  go_enter Tryd.func48, Tryd.ntmps48
  go_wp2_with fail
  go_loopw [3] (fun n wr => ∃ (i : Nat), n = .int .i64 i ∧ i ≤ b.size ∧ i + runL partB (b.data.toList.drop i) = m ∧ Below w.heap.size w wr) (fun n _ => b.size - (intOf n).toNat)
  case atStart => exact ⟨0, rfl, Nat.zero_le _, by rw [Nat.zero_add]; exact HM.out, Below.refl _ _⟩
  case round =>
    obtain ⟨i, rfl, hi, hrun, hbl⟩ := hrel
    have HB := Lib.hid hbl
    clear hbl
    by_cases hlt : i < b.size
    · have hl : i < b.data.toList.length := by rw [← Lib.size_eq]; exact hlt
      rw [runL_step partB hl] at hrun
      have hx : ∀ h : i < b.size, b[i]'h = b.data.toList[i]'hl := fun h => by simp [ByteArray.getElem_eq_getElem_data]
      obtain ⟨c, hcc⟩ : ∃ c, c = b.data.toList[i]'hl := ⟨_, rfl⟩
      rw [← hcc] at hrun hx
      have HR := Lib.hid hrun
      have HP := Lib.hid (HPC.out c)
      cases hp : partB c with
      | true =>
        rw [hp] at HP
        rw [hp, if_pos rfl] at HR
        clear hrun hl hcc
        go_wp2_with fail
        refine (HP.out _).mono ?_
        rintro e w2 ⟨rfl, hb2⟩
        have HB2 := Lib.hid (below_step HB.out hb2)
        clear hb2 hx
        go_wp2_with fail
        go_roundw
        case rel => exact ⟨i + 1, by go_num, by omega, by have := HR.out; omega, HB2.out⟩
        case measure => simp [intOf]; omega
      | false =>
        rw [hp] at HP
        rw [hp, if_neg (by decide)] at HR
        obtain rfl : i = m := by have := HR.out; omega
        clear hrun hl hcc
        go_wp2_with fail
        refine (HP.out _).mono ?_
        rintro e w2 ⟨rfl, hb2⟩
        have HB2 := Lib.hid (below_step HB.out hb2)
        clear hb2 hx
        go_wp2_with fail
        go_ret
        exact ⟨rfl, HB2.out⟩
    · have hie : i = b.size := by omega
      have hd : b.data.toList.drop i = [] := List.drop_of_length_le (by rw [← Lib.size_eq]; omega)
      rw [hd] at hrun
      obtain rfl : i = m := hrun
      clear hd
      subst hie
      have hfull : b.extract 0 b.size = b := by
        apply ByteArray.ext
        simp
      have HF := Lib.hid hfull
      clear hfull
      go_wp2_with fail
      go_ret
      exact ⟨congrArg (fun z => Ending.returned (Value.string z)) HF.out.symm, HB.out⟩
end Go.Proofs.YtlbgnpllbogkeaaDoor.Ext

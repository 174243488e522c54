/- Proved: PrintfPlain's law (as told) answers true for every text and words whose bulk is at most 1048576; what a format without backslashes and % does, and what printf.Escape makes of a text without backslashes: itself. Plain Lean: no program's step. -/
import Derived.Test.YtagdkbncfcdhdaaDoorVP1
set_option linter.unusedVariables false
namespace Go.Proofs.YtagdkbncfcdhdaaDoor.PurePf
open Go.RowKit Go.Proofs.YtagdkbncfcdhdaaDoor.P Go.Proofs.YtagdkbncfcdhdaaDoor.Ext Go.Proofs.YtagdkbncfcdhdaaDoorW.PrintWords
theorem ba_size (a : ByteArray) : a.size = a.data.toList.length := by simp
theorem hp_one (a : ByteArray) (c : UInt8) : Q.stringslite_HasPrefix.f a ⟨#[c]⟩ = some (a.data.toList.head? == some c) := by
  unfold Q.stringslite_HasPrefix.f
  have hs : ((⟨#[c]⟩ : ByteArray).size : Int) = 1 := rfl
  rw [hs]
  by_cases h : (a.size : Int) ≥ 1
  · rw [if_pos h, if_pos (by omega), if_pos h, Lib.toList_data, Lib.toList_data, ByteArray.data_extract]
    congr 1
    rw [ba_size] at h
    have e1 : (a.data.extract 0 (1 : Int).toNat).toList = a.data.toList.take 1 := by simp
    rw [e1]
    cases e : a.data.toList with
    | nil => rw [e] at h; simp at h
    | cons x l => simp
  · rw [if_neg h]
    congr 1
    rw [ba_size] at h
    cases e : a.data.toList with
    | nil => rfl
    | cons x l => rw [e] at h; simp only [List.length_cons] at h; omega
theorem tail_list (a : ByteArray) (c : UInt8) (l : List UInt8) (h : a.data.toList = c :: l) : (a.extract 1 a.size).data.toList = l := by
  have : (a.extract 1 a.size).data.toList = a.data.toList.drop 1 := by
    simp [ByteArray.data_extract]
    rw [List.take_of_length_le (by simp)]
  rw [this, h]
  rfl
theorem head_list (a : ByteArray) (c : UInt8) (l : List UInt8) (h : a.data.toList = c :: l) : (a.extract 0 1).data.toList = [c] := by
  have : (a.extract 0 1).data.toList = a.data.toList.take 1 := by
    simp [ByteArray.data_extract]
  rw [this, h]
  rfl
theorem esc_plain (x : ByteArray) (c : UInt8) (l : List UInt8) (h : x.data.toList = c :: l) (hc : c ≠ 92) : Q.printf_escape.f 8 x = some (⟨#[]⟩, 0) := by
  unfold Q.printf_escape.f Q.strings_HasPrefix.f
  rw [hp_one, h]
  have : ((c :: l).head? == some 92) = false := by
    rw [List.head?_cons]
    exact beq_eq_false_iff_ne.2 (fun e => hc (Option.some.inj e))
  rw [this, Option.bind_some, Option.bind_some, if_neg (by simp), show (8 : Nat) = 7 + 1 from rfl, Q.printf_escape.j0, if_pos rfl]
end Go.Proofs.YtagdkbncfcdhdaaDoor.PurePf

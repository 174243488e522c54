/- Proved: OctetsNames' law (as told) answers true for every text of at most 1048576 octets. Plain Lean: no program's step. -/
import Derived.Test.YteobnfcdlcemlaaDoorP48
set_option linter.unusedVariables false
namespace Go.Proofs.YteobnfcdlcemlaaDoor.PureN
open Go.RowKit Go.Proofs.YteobnfcdlcemlaaDoor.P Go.Proofs.YteobnfcdlcemlaaDoor.Ext Go.Proofs.YteobnfcdlcemlaaDoorW.PrintWords Go.Proofs.YteobnfcdlcemlaaDoorW.PrintLast Go.Proofs.YteobnfcdlcemlaaDoorW.PrintMore

theorem Name_eq (s : ByteArray) (h : s.size ≤ 1000000000) : octets_Name.f s = some (decide (s.size ≤ 64) && (everyB nameP s && !digitB (s.data.toList.getD 0 0).toNat)) := by
  unfold octets_Name.f
  rw [if_pos h]
theorem Plain_eq (s : ByteArray) (h : s.size ≤ 1000000000) : octets_Plain.f s = some (everyB plainP s) := by
  unfold octets_Plain.f
  rw [if_pos h]
theorem Digits_eq (s : ByteArray) (h : s.size ≤ 1000000000) : octets_Digits.f s = some (everyB digitB s) := by
  unfold octets_Digits.f
  rw [if_pos h]
theorem x_name : nameP 120 = true := by decide +kernel
theorem x_digit : digitB 120 = false := by decide +kernel
theorem one_digit : digitB 49 = true := by decide +kernel

theorem OctetsNamesU (a0 : ByteArray) (h0 : a0.size ≤ 1048576) : cowrielaw01_OctetsNames.f a0 = some true := by
  have hl : a0.data.toList.length = a0.size := by simp
  have hs1 : (a0 ++ (⟨#[120]⟩ : ByteArray)).size = a0.size + 1 := by rw [ByteArray.size_append]; rfl
  have hs2 : ((⟨#[49]⟩ : ByteArray) ++ a0).size = 1 + a0.size := by rw [ByteArray.size_append]; rfl
  have hd1 : (a0 ++ (⟨#[120]⟩ : ByteArray)).data.toList = a0.data.toList ++ [120] := by rw [ByteArray.data_append, Array.toList_append]
  have hd2 : ((⟨#[49]⟩ : ByteArray) ++ a0).data.toList = 49 :: a0.data.toList := by rw [ByteArray.data_append, Array.toList_append]; rfl
  have n1 := Name_eq (a0 ++ ⟨#[120]⟩) (by omega)
  have n2 := Name_eq (⟨#[49]⟩ ++ a0) (by omega)
  have n3 := Name_eq a0 (by omega)
  have e1 : everyB nameP (a0 ++ ⟨#[120]⟩) = a0.data.toList.all fun c => nameP c.toNat := by
    unfold everyB
    rw [hs1, decide_eq_false (by omega), hd1, List.all_append]
    show (true && (_ && (nameP 120 && true))) = _
    rw [x_name]
    simp
  have n2f : octets_Name.f (⟨#[49]⟩ ++ a0) = some false := by
    rw [n2, hd2]
    show some (_ && (_ && !digitB 49)) = _
    rw [one_digit]
    simp
  have hdp : everyB digitB a0 = true → everyB plainP a0 = true := by
    intro h
    unfold everyB at h ⊢
    rw [Bool.and_eq_true] at h ⊢
    refine ⟨h.1, ?_⟩
    rw [List.all_eq_true] at *
    intro c hc
    unfold plainP
    rw [h.2 c hc]
    simp
  have htail : ((octets_Digits.f a0).bind fun t => (if t = true then ((octets_Plain.f a0).bind fun t2 => (some t2)) else (some true))) = some true := by
    rw [Digits_eq a0 (by omega), Option.bind_some]
    cases hd : everyB digitB a0
    · rw [if_neg (by simp)]
    · rw [if_pos rfl, Plain_eq a0 (by omega), Option.bind_some, hdp hd]
  unfold cowrielaw01_OctetsNames.f
  show ((some true).bind _) = _
  rw [Option.bind_some, if_pos rfl, if_pos (by omega), n1, Option.bind_some]
  by_cases h64 : (a0.size : Int) < 64
  · rw [if_pos h64]
    by_cases he : a0.toList = ([] : List UInt8)
    · rw [if_pos he]
      rw [Lib.toList_data] at he
      have hz : a0.size = 0 := by rw [← hl, he]; rfl
      have hv : (decide ((a0 ++ (⟨#[120]⟩ : ByteArray)).size ≤ 64) && (everyB nameP (a0 ++ ⟨#[120]⟩) && !digitB ((a0 ++ (⟨#[120]⟩ : ByteArray)).data.toList.getD 0 0).toNat)) = true := by
        rw [e1, hd1, he, hs1, hz]
        show (true && (true && !digitB 120)) = true
        rw [x_digit]
        rfl
      rw [hv, if_pos (by rfl), if_pos (by omega), n2f, Option.bind_some, if_neg (by simp)]
      exact htail
    · rw [if_neg he]
      rw [Lib.toList_data] at he
      have hp : 0 < a0.size := by
        have := List.length_pos_iff.2 he
        omega
      have hv : (decide ((a0 ++ (⟨#[120]⟩ : ByteArray)).size ≤ 64) && (everyB nameP (a0 ++ ⟨#[120]⟩) && !digitB ((a0 ++ (⟨#[120]⟩ : ByteArray)).data.toList.getD 0 0).toNat)) = (decide (a0.size ≤ 64) && (everyB nameP a0 && !digitB (a0.data.toList.getD 0 0).toNat)) := by
        rw [e1, hd1, hs1, decide_eq_true (by omega), decide_eq_true (by omega)]
        unfold everyB
        rw [decide_eq_false (by omega)]
        cases hc : a0.data.toList with
        | nil => exact absurd hc he
        | cons c l => simp
      rw [n3, Option.bind_some, hv, if_pos (by simp), if_pos (by omega), n2f, Option.bind_some, if_neg (by simp)]
      exact htail
  · rw [if_neg h64]
    have hv : (decide ((a0 ++ (⟨#[120]⟩ : ByteArray)).size ≤ 64) && (everyB nameP (a0 ++ ⟨#[120]⟩) && !digitB ((a0 ++ (⟨#[120]⟩ : ByteArray)).data.toList.getD 0 0).toNat)) = false := by
      rw [decide_eq_false (by omega)]
      rfl
    rw [hv, if_pos (by rfl), if_pos (by omega), n2f, Option.bind_some, if_neg (by simp)]
    exact htail

end Go.Proofs.YteobnfcdlcemlaaDoor.PureN

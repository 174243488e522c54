/- Proved: what printf.Format makes of formats with %s, and chapter 09's alive. Plain Lean: no program's step. -/
import Derived.Test.YtagdkbncfcdhdaaDoorP54
set_option linter.unusedVariables false
namespace Go.Proofs.YtagdkbncfcdhdaaDoor.PurePf
open Go.RowKit Go.Proofs.YtagdkbncfcdhdaaDoor.P Go.Proofs.YtagdkbncfcdhdaaDoor.Ext Go.Proofs.YtagdkbncfcdhdaaDoorW.PrintWords

set_option maxRecDepth 100000 in
theorem told_s (a : ByteArray) (ha : a.size ≤ 100000000) : T.printf_spec_told.f 200 115 0 0 a = some (a, true) := by
  unfold T.printf_spec_told.f
  rw [if_neg (by decide), if_neg (by decide), if_neg (by decide), if_neg (by decide)]
  rw [show (200 : Nat) = 199 + 1 from rfl, T.printf_spec_told.j0]
  rw [show ((115 : Int) == 111) = false from rfl, if_neg (by simp)]
  have hm : mx (wrap64 (0 - (a.size : Int))) 0 = 0 := by
    have : wrap64 (0 - (a.size : Int)) = - a.size := by unfold wrap64; omega
    rw [this]
    unfold mx
    split <;> omega
  have hr : strings_Repeat.f (⟨#[32]⟩ : ByteArray) 0 = some ⟨#[]⟩ := by decide +kernel
  have he : (⟨#[]⟩ : ByteArray) ++ a = a := by
    apply ByteArray.ext
    apply Array.toList_inj.1
    rw [ByteArray.data_append]
    simp
  rw [hm, hr, Option.bind_some, if_neg (by decide), if_pos (by show 0 + a.size ≤ _; omega), he]
theorem one_s (a : ByteArray) (l : List ByteArray) (o : List UInt8) (st tk : Int) (ha : a.size ≤ 100000000) (ho : o.length ≤ 100000000000) : oneF 200 115 0 0 ⟨o, a :: l, st, tk⟩ = some ⟨o ++ a.data.toList, l, st, wrap64 (tk + 1)⟩ := by
  unfold oneF
  rw [if_neg (by decide), show (List.headD (a :: l) (⟨#[]⟩ : ByteArray)) = a from rfl, told_s a ha, Option.bind_some, if_pos (by show o.length + a.size ≤ _; omega), if_pos rfl]
  rfl
theorem alive_ok : cowrielaw09_alive.f = some true := by decide +kernel

theorem once_s (a : ByteArray) (l : List ByteArray) (o : List UInt8) (st tk : Int) (ha : a.size ≤ 100000000) (ho : o.length ≤ 100000000000) : onceF 200 3 ⟨#[37, 115]⟩ ⟨o, a :: l, st, tk⟩ = some (⟨o ++ a.data.toList, l, st, wrap64 (tk + 1)⟩, true) := by
  have e1 : Q.printf_escape.f 8 (⟨#[37, 115]⟩ : ByteArray) = some (⟨#[]⟩, 0) := by decide +kernel
  have e2 : Q.printf_conversion.f 20 ((⟨#[37, 115]⟩ : ByteArray).extract 1 (⟨#[37, 115]⟩ : ByteArray).size) = some (115, 0, 0, 1, true) := by decide +kernel
  rw [onceF, if_neg (by decide), e1, Option.bind_some, if_neg (by decide), if_neg (by decide), e2, Option.bind_some, if_pos rfl, one_s a l o st tk ha ho, Option.bind_some, if_pos (by decide), onceF, if_pos (by decide)]
theorem format_s (a : ByteArray) (ha : a.size ≤ 100000000) : printf_Format.f ⟨#[37, 115]⟩ [a] = some (a, 0) := by
  unfold printf_Format.f
  rw [if_pos (by decide), show ([a] : List ByteArray).length + 2 = 2 + 1 from rfl, formatF, show (⟨#[37, 115]⟩ : ByteArray).size + 1 = 3 from rfl, once_s a [] [] 0 0 ha (by simp), Option.bind_some, if_pos rfl, if_pos (by rfl)]
  rfl
theorem once_pct (a : ByteArray) (l : List ByteArray) (o : List UInt8) (st tk : Int) (ha : a.size ≤ 100000000) (ho : o.length ≤ 10000000000) : onceF 200 5 ⟨#[37, 37, 37, 115]⟩ ⟨o, a :: l, st, tk⟩ = some (⟨o ++ [37] ++ a.data.toList, l, st, wrap64 (tk + 1)⟩, true) := by
  have e1 : Q.printf_escape.f 8 (⟨#[37, 37, 37, 115]⟩ : ByteArray) = some (⟨#[]⟩, 0) := by decide +kernel
  have e2 : Q.printf_conversion.f 20 ((⟨#[37, 37, 37, 115]⟩ : ByteArray).extract 1 (⟨#[37, 37, 37, 115]⟩ : ByteArray).size) = some (37, 0, 0, 1, true) := by decide +kernel
  have e3 : (⟨#[37, 37, 37, 115]⟩ : ByteArray).extract ((1 + (1 : Int)).toNat) (⟨#[37, 37, 37, 115]⟩ : ByteArray).size = ⟨#[37, 115]⟩ := by decide +kernel
  have e4 : Q.printf_escape.f 8 (⟨#[37, 115]⟩ : ByteArray) = some (⟨#[]⟩, 0) := by decide +kernel
  have e5 : Q.printf_conversion.f 20 ((⟨#[37, 115]⟩ : ByteArray).extract 1 (⟨#[37, 115]⟩ : ByteArray).size) = some (115, 0, 0, 1, true) := by decide +kernel
  have h1 : oneF 200 37 0 0 ⟨o, a :: l, st, tk⟩ = some ⟨o ++ [37], a :: l, st, tk⟩ := by
    unfold oneF
    rw [if_pos rfl, if_pos (by show o.length + 1 ≤ _; omega)]
  rw [onceF, if_neg (by decide), e1, Option.bind_some, if_neg (by decide), if_neg (by decide), e2, Option.bind_some, if_pos rfl, h1, Option.bind_some, if_pos (by decide), e3]
  rw [onceF, if_neg (by decide), e4, Option.bind_some, if_neg (by decide), if_neg (by decide), e5, Option.bind_some, if_pos rfl, one_s a l (o ++ [37]) st tk ha (by rw [List.length_append, List.length_singleton]; omega), Option.bind_some, if_pos (by decide), onceF, if_pos (by decide)]
theorem format_pct (a : ByteArray) (ha : a.size ≤ 100000000) : printf_Format.f ⟨#[37, 37, 37, 115]⟩ [a] = some (⟨(37 :: a.data.toList).toArray⟩, 0) := by
  unfold printf_Format.f
  rw [if_pos (by decide), show ([a] : List ByteArray).length + 2 = 2 + 1 from rfl, formatF, show (⟨#[37, 37, 37, 115]⟩ : ByteArray).size + 1 = 5 from rfl, once_pct a [] [] 0 0 ha (by simp), Option.bind_some, if_pos rfl, if_pos (by rfl)]
  rfl

end Go.Proofs.YtagdkbncfcdhdaaDoor.PurePf

/- Proved: PrintfTexts' law (as told) answers true for every text of at most 1048576 octets. -/
import Derived.Test.YtagdkbncfcdhdaaDoorP55
import Derived.Test.YtagdkbncfcdhdaaDoorPurePrintf
namespace Go.Proofs.YtagdkbncfcdhdaaDoor.PurePf
open Go.RowKit Go.Proofs.YtagdkbncfcdhdaaDoor.P Go.Proofs.YtagdkbncfcdhdaaDoor.Ext Go.Proofs.YtagdkbncfcdhdaaDoorW.PrintWords
theorem PrintfTextsU (a0 : ByteArray) (h : a0.size ≤ 1048576) : cowrielaw09_PrintfTexts.f a0 = some true := by
  unfold cowrielaw09_PrintfTexts.f
  have h2 : (⟨(37 :: a0.data.toList).toArray⟩ : ByteArray).toList = ((⟨#[37]⟩ : ByteArray) ++ a0).toList := by
    rw [Lib.toList_data, Lib.toList_data, ByteArray.data_append]
    simp
  rw [format_s a0 (by omega), Option.bind_some, format_pct a0 (by omega), Option.bind_some, if_pos rfl, if_pos rfl, if_pos rfl, if_pos (by omega), if_pos h2, alive_ok]
  rfl
end Go.Proofs.YtagdkbncfcdhdaaDoor.PurePf

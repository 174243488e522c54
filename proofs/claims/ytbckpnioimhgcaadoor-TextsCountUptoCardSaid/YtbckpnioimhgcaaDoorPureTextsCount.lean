/- Proved: TextsCount's law (as told) answers true for every two texts of at most 1048576 octets each. Plain Lean: no program's step. -/
import Derived.Test.YtbckpnioimhgcaaDoorP40
import Derived.Test.YtbckpnioimhgcaaDoorCountW
set_option linter.unusedVariables false
namespace Go.Proofs.YtbckpnioimhgcaaDoor.PureC
open Go.RowKit Go.Proofs.YtbckpnioimhgcaaDoor.P Go.Proofs.YtbckpnioimhgcaaDoor.Ext Go.Proofs.YtbckpnioimhgcaaDoorW.PrintWords Go.Proofs.YtbckpnioimhgcaaDoorW.PrintLast

theorem alive_true : cowrielaw11_alive.f = some true := by decide +kernel
theorem w64 {x : Int} (h0 : -9223372036854775808 ≤ x) (h1 : x ≤ 9223372036854775807) : wrap64 x = x := by unfold wrap64; omega

theorem Count_eq (s : ByteArray) (h : s.size ≤ 1000000000) : texts_Count.f s = some (((s.data.toList.count 10 : Nat) : Int), ((wc false s.data.toList : Nat) : Int), (s.size : Int)) := by
  unfold texts_Count.f
  rw [if_pos h]

theorem TextsCountU (a0 a1 : ByteArray) (h0 : a0.size ≤ 1048576) (h1 : a1.size ≤ 1048576) : cowrielaw11_TextsCount.f a0 a1 = some true := by
  have hs1 : (a0 ++ (⟨#[10]⟩ : ByteArray)).size = a0.size + 1 := by rw [ByteArray.size_append]; rfl
  have hs2 : ((a0 ++ (⟨#[10]⟩ : ByteArray)) ++ a1).size = a0.size + 1 + a1.size := by rw [ByteArray.size_append, hs1]
  have hd : ((a0 ++ (⟨#[10]⟩ : ByteArray)) ++ a1).data.toList = a0.data.toList ++ 10 :: a1.data.toList := by
    simp [ByteArray.data_append]
  have hl0 : a0.data.toList.length = a0.size := by simp
  have hl1 : a1.data.toList.length = a1.size := by simp
  have c0 : a0.data.toList.count 10 ≤ a0.data.toList.length := List.count_le_length
  have c1 : a1.data.toList.count 10 ≤ a1.data.toList.length := List.count_le_length
  have d0 := wc_le a0.data.toList false
  have d1 := wc_le a1.data.toList false
  have hc : (a0.data.toList ++ 10 :: a1.data.toList).count 10 = a0.data.toList.count 10 + (a1.data.toList.count 10 + 1) := by rw [List.count_append, List.count_cons_self]
  have hw := wc_join a1.data.toList a0.data.toList false
  unfold cowrielaw11_TextsCount.f
  rw [alive_true, Option.bind_some, if_pos rfl, Count_eq a0 (by omega), Option.bind_some, Count_eq a1 (by omega), Option.bind_some, if_pos (by omega), hs1, if_pos (by omega), Count_eq _ (by omega), Option.bind_some, hd, hs2]
  dsimp only
  rw [hc, hw, w64 (x := ((a0.data.toList.count 10 : Nat) : Int) + _) (by omega) (by omega), w64 (by omega) (by omega), if_pos (by omega), w64 (by omega) (by omega), if_pos (by omega), w64 (x := (a0.size : Int) + _) (by omega) (by omega), w64 (by omega) (by omega)]
  congr 1
  rw [beq_iff_eq]
  omega

end Go.Proofs.YtbckpnioimhgcaaDoor.PureC

/- Proved: a path as it is told is its own; a part and .. behind it change nothing. Condition: texts of at most 2 to the 20 octets. -/
import Derived.Test.YtdfddiehiiaepaaGreatDoorVsP3
set_option linter.unusedVariables false
set_option linter.unusedSimpArgs false
namespace Go.Proofs.YtdfddiehiiaepaaGreatDoor.PureT7
open Go.RowKit Go.Proofs.YtdfddiehiiaepaaGreatDoor.P Go.Proofs.YtdfddiehiiaepaaGreatDoor.Ext Go.Proofs.YtdfddiehiiaepaaGreatDoorW.PrintWords
theorem data_append (a b : ByteArray) : (a ++ b).data.toList = a.data.toList ++ b.data.toList := by simp [ByteArray.data_append]
theorem badP_eq (s : ByteArray) : badP s = true ↔ (s.data.toList = [] ∨ 0 ∈ s.data.toList) := by
  unfold badP
  rw [Bool.or_eq_true, List.isEmpty_iff, decide_eq_true_eq]
  have : ∀ l : List UInt8, 0 ≤ Lib.indexByte l 0 ↔ 0 ∈ l := by
    intro l
    induction l with
    | nil => simp [Lib.indexByte]
    | cons b l ih =>
      unfold Lib.indexByte
      split
      · rename_i h
        simp [eq_of_beq h]
      · rename_i h
        have hb : b ≠ 0 := fun e => h (by simp [e])
        split
        · rename_i h1
          have h2 : Lib.indexByte l 0 = -1 := eq_of_beq h1
          rw [h2] at ih
          simp at ih
          simp [Ne.symm hb, ih]
        · rename_i h1
          have h2 : Lib.indexByte l 0 ≠ -1 := by simpa using h1
          have h3 := Lib.indexByte_ge l 0
          have h4 : 0 ≤ Lib.indexByte l 0 := by omega
          simp [Ne.symm hb]
          exact ⟨fun _ => ih.1 h4, fun _ => by omega⟩
  rw [this]
theorem toB {a b : ByteArray} (h : a.data.toList = b.data.toList) : a = b := by rw [← mkB_of a, h, mkB_of]
theorem good (s : ByteArray) : ∀ w ∈ Path.partsL s.data.toList, Path.Good w := fun w hw => (Path.partsL_good _ w hw).1
end Go.Proofs.YtdfddiehiiaepaaGreatDoor.PureT7

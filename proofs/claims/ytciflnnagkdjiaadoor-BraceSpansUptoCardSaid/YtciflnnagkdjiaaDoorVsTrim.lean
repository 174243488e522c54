/- Proved: strings.Trim's call at a set of ASCII octets tells the text without those octets at its ends (the shelf's contract in the print's form). Condition: the text is shorter than 2 to the 63. -/
import Derived.Test.YtciflnnagkdjiaaDoorVsShelf
import Derived.Test.YtciflnnagkdjiaaDoorVsWWords
import Derived.Shelf.Strings.SlTrimAscii
namespace Go.Proofs.YtciflnnagkdjiaaDoor.Ext
open Go.RowKit Go.Proofs.YtciflnnagkdjiaaDoorW.PrintWords
def strings_Trim.f (a0 a1 : ByteArray) : Option ByteArray :=
  if a0.size ≤ 9223372036854775807 ∧ a1.size < 4294967281 ∧ a1.data.toList.all (fun b => b.toNat < 128) = true then some ⟨(Lib.trimS a0.data.toList a1.data.toList).toArray⟩ else none
theorem strings_Trim.calls (a0 a1 : ByteArray) (r : ByteArray) (w : World) (h : strings_Trim.f a0 a1 = some r) :
    Calls Tryd.prog 67 #[.string a0, .string a1] w fun e w' => e = .returned (.string r) ∧ Below w.heap.size w w' := by
  unfold strings_Trim.f at h
  split at h
  case isFalse => cases h
  rename_i hc
  obtain rfl := Option.some.inj h
  refine (Any.strings_Trim_laid Tryd.lays160 (by kernel_rfl) a0 a1 w hc.1 hc.2.1 (fun j b hj => ?_)).mono ?_
  · have := List.all_eq_true.1 hc.2.2 b (List.mem_of_getElem? hj)
    simpa using this
  · rintro e w' ⟨he, hb⟩
    exact ⟨he, hb⟩
end Go.Proofs.YtciflnnagkdjiaaDoor.Ext

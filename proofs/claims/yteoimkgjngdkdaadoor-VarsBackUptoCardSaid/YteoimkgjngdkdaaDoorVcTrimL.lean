/- Proved: strings.TrimLeft's call at one octet of ASCII, in the print's form. -/
import Derived.Test.YteoimkgjngdkdaaDoorVcShelf
import Derived.Test.YteoimkgjngdkdaaDoorVcWWords
namespace Go.Proofs.YteoimkgjngdkdaaDoor.Ext
open Go.RowKit Go.Proofs.YteoimkgjngdkdaaDoorW.PrintWords
def strings_TrimLeft.f (a0 a1 : ByteArray) : Option ByteArray := if a1.size = 1 ∧ (a1.data.toList.getD 0 0).toNat < 128 then some ⟨(Lib.trimLeftB a0.data.toList (a1.data.toList.getD 0 0)).toArray⟩ else none
theorem strings_TrimLeft.calls (a0 a1 : ByteArray) (r : ByteArray) (w : World) (h : strings_TrimLeft.f a0 a1 = some r) :
    Calls Tryd.prog 57 #[.string a0, .string a1] w fun e w' => e = .returned (.string r) ∧ Below w.heap.size w w' := by
  unfold strings_TrimLeft.f at h
  split at h
  case isFalse => cases h
  rename_i hc
  obtain rfl := Option.some.inj h
  obtain ⟨h1, h2⟩ := hc
  have e : a1 = ⟨#[a1.data.toList.getD 0 0]⟩ := by
    apply ByteArray.ext
    apply Array.toList_inj.1
    match hl : a1.data.toList, (show a1.data.toList.length = 1 by simpa using h1) with
    | [c], _ => rfl
  have key := Tryd.strings_TrimLeft_one a0 (a1.data.toList.getD 0 0) h2 w
  rw [← e] at key
  refine key.mono ?_
  rintro e w' ⟨rfl, rfl⟩
  exact ⟨rfl, Below.refl _ _⟩
end Go.Proofs.YteoimkgjngdkdaaDoor.Ext

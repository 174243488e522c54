/- strings.Repeat in the print's form. Condition: what comes out is of at most 10 to the 9 octets. -/
import Derived.Test.YtagdkbncfcdhdaaDoorShelf
import Derived.Test.YtagdkbncfcdhdaaDoorWWords
namespace Go.Proofs.YtagdkbncfcdhdaaDoor.Ext
open Go.RowKit Go.Proofs.YtagdkbncfcdhdaaDoorW.PrintWords

theorem wrap_mod256 (x : Int) : wrap64 (x % 256) = x % 256 := by unfold wrap64; omega

def strings_Repeat.f (a0 : ByteArray) (a1 : Int) : Option ByteArray :=
  if 0 ≤ a1 ∧ a1 ≤ 1000000000 ∧ a0.size * a1.toNat ≤ 1000000000 then some ⟨(Lib.repeatL a0.data.toList a1.toNat).toArray⟩ else none
theorem strings_Repeat.calls (a0 : ByteArray) (a1 : Int) (r : ByteArray) (w : World) (h : strings_Repeat.f a0 a1 = some r) :
    Calls Tryd.prog 47 #[.string a0, .int .i64 a1] w fun e w' => e = .returned (.string r) ∧ Below w.heap.size w w' := by
  unfold strings_Repeat.f at h
  split at h
  case isFalse => cases h
  next hc =>
  obtain ⟨h0, h1, h2⟩ := hc
  injection h with h
  subst h
  obtain ⟨n, rfl⟩ := Int.eq_ofNat_of_zero_le h0
  exact Tryd.strings_Repeat a0 n w (by omega) (by rw [Int.toNat_natCast] at h2; omega)
end Go.Proofs.YtagdkbncfcdhdaaDoor.Ext

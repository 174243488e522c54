/- Proved: FieldsOwn's call in the print's form, out of its walk. -/
import Derived.Test.YtfmfncknpifjcaaOwnWalk
namespace Go.Proofs.Ytfmfncknpifjcaa.P
open Go.RowKit Go.Proofs.Ytfmfncknpifjcaa.Ext Go.Proofs.YtfmfncknpifjcaaW.PrintWords

/-! ### cowrielaw08_FieldsOwn: function 5 -/
def cowrielaw08_FieldsOwn.f (k : Nat) (l0 : List S35) (a1 : ByteArray) : Option Bool :=
  if cowrielaw08_alive.f = some true then (cowrielaw08_Of.f k l0).bind fun L => if L.length ≤ 1000000000 ∧ L.all (fun p => decide (p.f0.length ≤ 1000000000)) = true then
    (fields_Fields.f L a1).bind fun r => (cowrieref08_Fields.f k l0 a1).bind fun r2 => cowrieplain_SameFields.f k r r2 else none else none
theorem cowrielaw08_FieldsOwn.calls (k : Nat) (A0 : Option Addr) (c0 : Nat) (l0 : List S35) (a1 : ByteArray) (b : Bool) (w : World) (hr0 : Kd.C k35 w A0 l0.length l0) (hc0 : l0.length ≤ c0) (h : cowrielaw08_FieldsOwn.f k l0 a1 = some b) :
    Calls Try.prog 5 #[.slice A0 l0.length c0, .string a1] w fun e w' => e = .returned (.bool b) ∧ Below w.heap.size w w' := by
  unfold cowrielaw08_FieldsOwn.f at h
  split at h
  case isFalse => cases h
  rename_i ha
  obtain ⟨L, hL, h⟩ := Option.bind_eq_some_iff.1 h
  split at h
  case isFalse => cases h
  rename_i hc
  obtain ⟨r, hr, h⟩ := Option.bind_eq_some_iff.1 h
  obtain ⟨r2, hr2, h⟩ := Option.bind_eq_some_iff.1 h
  exact own_calls k A0 c0 l0 a1 L r r2 b w hr0 hc0 ha hL hr hr2 h hc.1 fun p hp => by simpa using List.all_eq_true.1 hc.2 p hp

end Go.Proofs.Ytfmfncknpifjcaa.P

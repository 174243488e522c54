-- Written by programs of the kit and of this session.
import Derived.Test.YtagdkbncfcdhdaaDoorVOpen
import Derived.Test.YtagdkbncfcdhdaaDoorVP1
set_option linter.unusedVariables false
set_option maxRecDepth 100000
namespace Go.Proofs.YtagdkbncfcdhdaaDoor.Ext
open Go.RowKit Go.ChangeShapes Go.WideShapes Go.Deep Go.Proofs.YtagdkbncfcdhdaaDoor.P Go.Proofs.YtagdkbncfcdhdaaDoorW.PrintWords
theorem open_T24 {H : Type} {enc : TypeId × Value → H} {W : World} {base b0 : Nat} {spare : Nat → Bool} {held : Bool} {r : Reach} {v : Value} {x : DataW H} {p : List MemPlace}
    (hv : Value.okWide Tryd.prog W r b0 24 v) (hd : DataW.Trod enc Tryd.prog W base spare held 24 v x p) :
    ∃ A c l, v = .slice A l.length c ∧ l.length ≤ c ∧ Kd.C Kd.string W A l.length l ∧ (∀ y0 ∈ l, True) ∧ (l.map fun y0 => y0.size + 1).sum + 1 ≤ Rows.uptoBulk x :=
  open_arg (d := Kd.string) (wf := fun (l : (List ByteArray)) => ∀ y0 ∈ l, True) (sz := fun (l : (List ByteArray)) => (l.map fun y0 => y0.size + 1).sum + 1) Tryd.underlying24 (opens_slice Tryd.underlying24 (by kernel_rfl) (opens_string Tryd.underlying9)) hv hd
end Go.Proofs.YtagdkbncfcdhdaaDoor.Ext

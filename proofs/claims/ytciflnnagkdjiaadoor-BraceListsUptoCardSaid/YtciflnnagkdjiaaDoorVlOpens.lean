-- Written by programs of the kit and of this session.
import Derived.Test.YtciflnnagkdjiaaDoorVlOpen
import Derived.Test.YtciflnnagkdjiaaDoorVlP1
set_option linter.unusedVariables false
set_option maxRecDepth 100000
namespace Go.Proofs.YtciflnnagkdjiaaDoor.Ext
open Go.RowKit Go.ChangeShapes Go.WideShapes Go.Deep Go.Proofs.YtciflnnagkdjiaaDoor.P Go.Proofs.YtciflnnagkdjiaaDoorW.PrintWords
theorem open_T38 {H : Type} {enc : TypeId × Value → H} {W : World} {base b0 : Nat} {spare : Nat → Bool} {held : Bool} {r : Reach} {v : Value} {x : DataW H} {p : List MemPlace}
    (hv : Value.okWide Tryd.prog W r b0 38 v) (hd : DataW.Trod enc Tryd.prog W base spare held 38 v x p) :
    ∃ A c l, v = .slice A l.length c ∧ l.length ≤ c ∧ Kd.C Kd.string W A l.length l ∧ (∀ y0 ∈ l, True) ∧ (l.map fun y0 => y0.size + 1).sum + 1 ≤ Rows.uptoBulk x :=
  open_arg (d := Kd.string) (wf := fun (l : (List ByteArray)) => ∀ y0 ∈ l, True) (sz := fun (l : (List ByteArray)) => (l.map fun y0 => y0.size + 1).sum + 1) Tryd.underlying38 (opens_slice Tryd.underlying38 (by kernel_rfl) (opens_string Tryd.underlying9)) hv hd
end Go.Proofs.YtciflnnagkdjiaaDoor.Ext

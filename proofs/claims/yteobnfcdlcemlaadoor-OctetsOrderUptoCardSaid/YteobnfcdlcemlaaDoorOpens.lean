-- Written by a program of this session (openers.py).
import Derived.Test.YteobnfcdlcemlaaDoorOpen
import Derived.Test.YteobnfcdlcemlaaDoorP0
set_option linter.unusedVariables false
set_option maxRecDepth 100000
namespace Go.Proofs.YteobnfcdlcemlaaDoor.Ext
open Go.RowKit Go.ChangeShapes Go.WideShapes Go.Deep Go.Proofs.YteobnfcdlcemlaaDoor.P Go.Proofs.YteobnfcdlcemlaaDoorW.PrintWords
theorem open_T29 {H : Type} {enc : TypeId × Value → H} {W : World} {base b0 : Nat} {spare : Nat → Bool} {held : Bool} {r : Reach} {v : Value} {x : DataW H} {p : List MemPlace}
    (hv : Value.okWide Tryd.prog W r b0 29 v) (hd : DataW.Trod enc Tryd.prog W base spare held 29 v x p) :
    ∃ A c l, v = .slice A l.length c ∧ l.length ≤ c ∧ Kd.C Kd.string W A l.length l ∧ (∀ y0 ∈ l, True) ∧ (l.map fun y0 => y0.size + 1).sum + 1 ≤ Rows.uptoBulk x :=
  open_arg (d := Kd.string) (wf := fun (l : (List ByteArray)) => ∀ y0 ∈ l, True) (sz := fun (l : (List ByteArray)) => (l.map fun y0 => y0.size + 1).sum + 1) Tryd.underlying29 (opens_slice Tryd.underlying29 (by kernel_rfl) (opens_string Tryd.underlying9)) hv hd
end Go.Proofs.YteobnfcdlcemlaaDoor.Ext

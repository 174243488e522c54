-- Written by programs of the kit and of this session.
import Derived.Test.YtdfddiehiiaepaaDoorVlOpen
import Derived.Test.YtdfddiehiiaepaaDoorVlP1
set_option linter.unusedVariables false
set_option maxRecDepth 100000
namespace Go.Proofs.YtdfddiehiiaepaaDoor.Ext
open Go.RowKit Go.ChangeShapes Go.WideShapes Go.Deep Go.Proofs.YtdfddiehiiaepaaDoor.P Go.Proofs.YtdfddiehiiaepaaDoorW.PrintWords
def wfS65 (x : S65) : Prop := ((True) ∧ ((True) ∧ (True)))
def szS65 (x : S65) : Nat := ((x.f0.size + 1) + ((1) + (x.f2.size + 1))) + 1
theorem opens_T65 : Opens 65 k65 wfS65 szS65 := opens_iso (fun x : S65 => (x.f0, x.f1, x.f2)) (fun a => ⟨⟨a.1, a.2.1, a.2.2⟩, rfl⟩) (opens_struct (fs := _) Tryd.underlying65 (by kernel_rfl) (opensAt_cons rfl (by kernel_rfl) (opens_string Tryd.underlying9) rfl (opensAt_cons rfl (by kernel_rfl) (opens_bool Tryd.underlying4) rfl (opensAt_one rfl (by kernel_rfl) (opens_string Tryd.underlying9)))))
theorem open_T23 {H : Type} {enc : TypeId × Value → H} {W : World} {base b0 : Nat} {spare : Nat → Bool} {held : Bool} {r : Reach} {v : Value} {x : DataW H} {p : List MemPlace}
    (hv : Value.okWide Tryd.prog W r b0 23 v) (hd : DataW.Trod enc Tryd.prog W base spare held 23 v x p) :
    ∃ A c l, v = .slice A l.length c ∧ l.length ≤ c ∧ Kd.C k65 W A l.length l ∧ (∀ y0 ∈ l, wfS65 y0) ∧ (l.map fun y0 => szS65 y0).sum + 1 ≤ Rows.uptoBulk x :=
  open_arg (d := k65) (wf := fun (l : (List S65)) => ∀ y0 ∈ l, wfS65 y0) (sz := fun (l : (List S65)) => (l.map fun y0 => szS65 y0).sum + 1) Tryd.underlying23 (opens_slice Tryd.underlying23 (by kernel_rfl) opens_T65) hv hd
end Go.Proofs.YtdfddiehiiaepaaDoor.Ext

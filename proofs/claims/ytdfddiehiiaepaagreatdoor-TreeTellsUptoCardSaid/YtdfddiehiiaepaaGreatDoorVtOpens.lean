-- Written by programs of the kit and of this session.
import Derived.Test.YtdfddiehiiaepaaGreatDoorVtOpen
import Derived.Test.YtdfddiehiiaepaaGreatDoorVtP1
set_option linter.unusedVariables false
set_option maxRecDepth 100000
namespace Go.Proofs.YtdfddiehiiaepaaGreatDoor.Ext
open Go.RowKit Go.ChangeShapes Go.WideShapes Go.Deep Go.Proofs.YtdfddiehiiaepaaGreatDoor.P Go.Proofs.YtdfddiehiiaepaaGreatDoorW.PrintWords
def wfS73 (x : S73) : Prop := ((True) ∧ ((True) ∧ (True)))
def szS73 (x : S73) : Nat := ((x.f0.size + 1) + ((1) + (x.f2.size + 1))) + 1
theorem opens_T73 : Opens 73 k73 wfS73 szS73 := opens_iso (fun x : S73 => (x.f0, x.f1, x.f2)) (fun a => ⟨⟨a.1, a.2.1, a.2.2⟩, rfl⟩) (opens_struct (fs := _) Tryz.underlying73 (by kernel_rfl) (opensAt_cons rfl (by kernel_rfl) (opens_string Tryz.underlying9) rfl (opensAt_cons rfl (by kernel_rfl) (opens_bool Tryz.underlying4) rfl (opensAt_one rfl (by kernel_rfl) (opens_string Tryz.underlying9)))))
theorem open_T23 {H : Type} {enc : TypeId × Value → H} {W : World} {base b0 : Nat} {spare : Nat → Bool} {held : Bool} {r : Reach} {v : Value} {x : DataW H} {p : List MemPlace}
    (hv : Value.okWide Tryz.prog W r b0 23 v) (hd : DataW.Trod enc Tryz.prog W base spare held 23 v x p) :
    ∃ A c l, v = .slice A l.length c ∧ l.length ≤ c ∧ Kd.C k73 W A l.length l ∧ (∀ y0 ∈ l, wfS73 y0) ∧ (l.map fun y0 => szS73 y0).sum + 1 ≤ Rows.uptoBulk x :=
  open_arg (d := k73) (wf := fun (l : (List S73)) => ∀ y0 ∈ l, wfS73 y0) (sz := fun (l : (List S73)) => (l.map fun y0 => szS73 y0).sum + 1) Tryz.underlying23 (opens_slice Tryz.underlying23 (by kernel_rfl) opens_T73) hv hd
end Go.Proofs.YtdfddiehiiaepaaGreatDoor.Ext

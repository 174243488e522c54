-- Written by programs of the kit and of this session.
import Derived.Test.YteoimkgjngdkdaaDoorVbOpen
import Derived.Test.YteoimkgjngdkdaaDoorVbP1
set_option linter.unusedVariables false
set_option maxRecDepth 100000
namespace Go.Proofs.YteoimkgjngdkdaaDoor.Ext
open Go.RowKit Go.ChangeShapes Go.WideShapes Go.Deep Go.Proofs.YteoimkgjngdkdaaDoor.P Go.Proofs.YteoimkgjngdkdaaDoorW.PrintWords
def wfS53 (x : S53) : Prop := ((True) ∧ ((True) ∧ ((True) ∧ (∀ y0 ∈ x.f3, True))))
def szS53 (x : S53) : Nat := ((x.f0.size + 1) + ((x.f1.size + 1) + ((1) + ((x.f3.map fun y0 => y0.size + 1).sum + 1)))) + 1
theorem opens_T53 : Opens 53 k53 wfS53 szS53 := opens_iso (fun x : S53 => (x.f0, x.f1, x.f2, x.f3)) (fun a => ⟨⟨a.1, a.2.1, a.2.2.1, a.2.2.2⟩, rfl⟩) (opens_struct (fs := _) Tryd.underlying53 (by kernel_rfl) (opensAt_cons rfl (by kernel_rfl) (opens_string Tryd.underlying9) rfl (opensAt_cons rfl (by kernel_rfl) (opens_string Tryd.underlying9) rfl (opensAt_cons rfl (by kernel_rfl) (opens_bool Tryd.underlying4) rfl (opensAt_one rfl (by kernel_rfl) (opens_slice Tryd.underlying23 (by kernel_rfl) (opens_string Tryd.underlying9)))))))
theorem open_T23 {H : Type} {enc : TypeId × Value → H} {W : World} {base b0 : Nat} {spare : Nat → Bool} {held : Bool} {r : Reach} {v : Value} {x : DataW H} {p : List MemPlace}
    (hv : Value.okWide Tryd.prog W r b0 23 v) (hd : DataW.Trod enc Tryd.prog W base spare held 23 v x p) :
    ∃ A c l, v = .slice A l.length c ∧ l.length ≤ c ∧ Kd.C Kd.string W A l.length l ∧ (∀ y0 ∈ l, True) ∧ (l.map fun y0 => y0.size + 1).sum + 1 ≤ Rows.uptoBulk x :=
  open_arg (d := Kd.string) (wf := fun (l : (List ByteArray)) => ∀ y0 ∈ l, True) (sz := fun (l : (List ByteArray)) => (l.map fun y0 => y0.size + 1).sum + 1) Tryd.underlying23 (opens_slice Tryd.underlying23 (by kernel_rfl) (opens_string Tryd.underlying9)) hv hd
end Go.Proofs.YteoimkgjngdkdaaDoor.Ext

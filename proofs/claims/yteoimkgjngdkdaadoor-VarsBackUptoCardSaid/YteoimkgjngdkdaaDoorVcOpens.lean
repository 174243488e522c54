-- Written by programs of the kit and of this session.
import Derived.Test.YteoimkgjngdkdaaDoorVcOpen
import Derived.Test.YteoimkgjngdkdaaDoorVcP1
set_option linter.unusedVariables false
set_option maxRecDepth 100000
namespace Go.Proofs.YteoimkgjngdkdaaDoor.Ext
open Go.RowKit Go.ChangeShapes Go.WideShapes Go.Deep Go.Proofs.YteoimkgjngdkdaaDoor.P Go.Proofs.YteoimkgjngdkdaaDoorW.PrintWords
def wfS53 (x : S53) : Prop := ((True) ∧ ((True) ∧ ((True) ∧ (∀ y0 ∈ x.f3, True))))
def szS53 (x : S53) : Nat := ((x.f0.size + 1) + ((x.f1.size + 1) + ((1) + ((x.f3.map fun y0 => y0.size + 1).sum + 1)))) + 1
theorem opens_T53 : Opens 53 k53 wfS53 szS53 := opens_iso (fun x : S53 => (x.f0, x.f1, x.f2, x.f3)) (fun a => ⟨⟨a.1, a.2.1, a.2.2.1, a.2.2.2⟩, rfl⟩) (opens_struct (fs := _) Tryd.underlying53 (by kernel_rfl) (opensAt_cons rfl (by kernel_rfl) (opens_string Tryd.underlying9) rfl (opensAt_cons rfl (by kernel_rfl) (opens_string Tryd.underlying9) rfl (opensAt_cons rfl (by kernel_rfl) (opens_bool Tryd.underlying4) rfl (opensAt_one rfl (by kernel_rfl) (opens_slice Tryd.underlying23 (by kernel_rfl) (opens_string Tryd.underlying9)))))))
end Go.Proofs.YteoimkgjngdkdaaDoor.Ext

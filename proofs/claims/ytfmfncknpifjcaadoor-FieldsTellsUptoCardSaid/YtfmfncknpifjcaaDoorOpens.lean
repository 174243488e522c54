-- Written by a program of this session (openers.py).
import Derived.Test.YtfmfncknpifjcaaDoorOpen
import Derived.Test.YtfmfncknpifjcaaDoorP0
set_option linter.unusedVariables false
namespace Go.Proofs.YtfmfncknpifjcaaDoor.Ext
open Go.RowKit Go.ChangeShapes Go.WideShapes Go.Deep Go.Proofs.YtfmfncknpifjcaaDoor.P Go.Proofs.YtfmfncknpifjcaaDoorW.PrintWords
def wfS39 (x : S39) : Prop := (((Lit.int .u8 x.f0).wf = true) ∧ (True))
def szS39 (x : S39) : Nat := ((1) + (1)) + 1
theorem opens_T39 : Opens 39 k39 wfS39 szS39 := opens_iso (fun x : S39 => (x.f0, x.f1)) (fun a => ⟨⟨a.1, a.2⟩, rfl⟩) (opens_struct (fs := _) Tryd.underlying39 (by kernel_rfl) (opensAt_cons rfl (by kernel_rfl) (opens_int Tryd.underlying5) rfl (opensAt_one rfl (by kernel_rfl) (opens_bool Tryd.underlying4))))
def wfS53 (x : S53) : Prop := ((∀ y0 ∈ x.f0, wfS39 y0) ∧ ((True) ∧ ((True) ∧ (True))))
def szS53 (x : S53) : Nat := (((x.f0.map fun y0 => szS39 y0).sum + 1) + ((1) + ((1) + (1)))) + 1
theorem opens_T53 : Opens 53 k53 wfS53 szS53 := opens_iso (fun x : S53 => (x.f0, x.f1, x.f2, x.f3)) (fun a => ⟨⟨a.1, a.2.1, a.2.2.1, a.2.2.2⟩, rfl⟩) (opens_struct (fs := _) Tryd.underlying53 (by kernel_rfl) (opensAt_cons rfl (by kernel_rfl) (opens_slice Tryd.underlying40 (by kernel_rfl) opens_T39) rfl (opensAt_cons rfl (by kernel_rfl) (opens_bool Tryd.underlying4) rfl (opensAt_cons rfl (by kernel_rfl) (opens_bool Tryd.underlying4) rfl (opensAt_one rfl (by kernel_rfl) (opens_bool Tryd.underlying4))))))
theorem open_T27 {H : Type} {enc : TypeId × Value → H} {W : World} {base b0 : Nat} {spare : Nat → Bool} {held : Bool} {r : Reach} {v : Value} {x : DataW H} {p : List MemPlace}
    (hv : Value.okWide Tryd.prog W r b0 27 v) (hd : DataW.Trod enc Tryd.prog W base spare held 27 v x p) :
    ∃ A c l, v = .slice A l.length c ∧ l.length ≤ c ∧ Kd.C k53 W A l.length l ∧ (∀ y0 ∈ l, wfS53 y0) ∧ (l.map fun y0 => szS53 y0).sum + 1 ≤ Rows.uptoBulk x :=
  open_arg (d := k53) (wf := fun (l : (List S53)) => ∀ y0 ∈ l, wfS53 y0) (sz := fun (l : (List S53)) => (l.map fun y0 => szS53 y0).sum + 1) Tryd.underlying27 (opens_slice Tryd.underlying27 (by kernel_rfl) opens_T53) hv hd
end Go.Proofs.YtfmfncknpifjcaaDoor.Ext

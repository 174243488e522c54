-- Written by a program of this session (openers.py).
import Derived.Test.YtfmfncknpifjcaaOpen
import Derived.Test.YtfmfncknpifjcaaP0
set_option linter.unusedVariables false
namespace Go.Proofs.Ytfmfncknpifjcaa.Ext
open Go.RowKit Go.ChangeShapes Go.WideShapes Go.Deep Go.Proofs.Ytfmfncknpifjcaa.P Go.Proofs.YtfmfncknpifjcaaW.PrintWords
def wfS24 (x : S24) : Prop := (((Lit.int .u8 x.f0).wf = true) ∧ (True))
def szS24 (x : S24) : Nat := ((1) + (1)) + 1
theorem opens_T24 : Opens 24 k24 wfS24 szS24 := opens_iso (fun x : S24 => (x.f0, x.f1)) (fun a => ⟨⟨a.1, a.2⟩, rfl⟩) (opens_struct (fs := _) Try.underlying24 (by kernel_rfl) (opensAt_cons rfl (by kernel_rfl) (opens_int Try.underlying5) rfl (opensAt_one rfl (by kernel_rfl) (opens_bool Try.underlying4))))
def wfS35 (x : S35) : Prop := ((∀ y0 ∈ x.f0, wfS24 y0) ∧ ((True) ∧ ((True) ∧ (True))))
def szS35 (x : S35) : Nat := (((x.f0.map fun y0 => szS24 y0).sum + 1) + ((1) + ((1) + (1)))) + 1
theorem opens_T35 : Opens 35 k35 wfS35 szS35 := opens_iso (fun x : S35 => (x.f0, x.f1, x.f2, x.f3)) (fun a => ⟨⟨a.1, a.2.1, a.2.2.1, a.2.2.2⟩, rfl⟩) (opens_struct (fs := _) Try.underlying35 (by kernel_rfl) (opensAt_cons rfl (by kernel_rfl) (opens_slice Try.underlying22 (by kernel_rfl) opens_T24) rfl (opensAt_cons rfl (by kernel_rfl) (opens_bool Try.underlying4) rfl (opensAt_cons rfl (by kernel_rfl) (opens_bool Try.underlying4) rfl (opensAt_one rfl (by kernel_rfl) (opens_bool Try.underlying4))))))
theorem open_T33 {H : Type} {enc : TypeId × Value → H} {W : World} {base b0 : Nat} {spare : Nat → Bool} {held : Bool} {r : Reach} {v : Value} {x : DataW H} {p : List MemPlace}
    (hv : Value.okWide Try.prog W r b0 33 v) (hd : DataW.Trod enc Try.prog W base spare held 33 v x p) :
    ∃ A c l, v = .slice A l.length c ∧ l.length ≤ c ∧ Kd.C k35 W A l.length l ∧ (∀ y0 ∈ l, wfS35 y0) ∧ (l.map fun y0 => szS35 y0).sum + 1 ≤ Rows.uptoBulk x :=
  open_arg (d := k35) (wf := fun (l : (List S35)) => ∀ y0 ∈ l, wfS35 y0) (sz := fun (l : (List S35)) => (l.map fun y0 => szS35 y0).sum + 1) Try.underlying33 (opens_slice Try.underlying33 (by kernel_rfl) opens_T35) hv hd
theorem open_T39 {H : Type} {enc : TypeId × Value → H} {W : World} {base b0 : Nat} {spare : Nat → Bool} {held : Bool} {r : Reach} {v : Value} {x : DataW H} {p : List MemPlace}
    (hv : Value.okWide Try.prog W r b0 39 v) (hd : DataW.Trod enc Try.prog W base spare held 39 v x p) :
    ∃ A c l, v = .slice A l.length c ∧ l.length ≤ c ∧ Kd.C Kd.string W A l.length l ∧ (∀ y0 ∈ l, True) ∧ (l.map fun y0 => y0.size + 1).sum + 1 ≤ Rows.uptoBulk x :=
  open_arg (d := Kd.string) (wf := fun (l : (List ByteArray)) => ∀ y0 ∈ l, True) (sz := fun (l : (List ByteArray)) => (l.map fun y0 => y0.size + 1).sum + 1) Try.underlying39 (opens_slice Try.underlying39 (by kernel_rfl) (opens_string Try.underlying9)) hv hd
end Go.Proofs.Ytfmfncknpifjcaa.Ext

/- Proved: slices.Clone of texts: a slice of the call's own with the same texts. Condition: at most 10 to the 9 texts. -/
import Derived.Test.YteoimkgjngdkdaaDoorVcShelf
import Derived.Test.YteoimkgjngdkdaaDoorVcWWords
import Derived.Lib.Hide
import Derived.Sort.OwnSorted
import Derived.Lib.OwnBridge
set_option linter.unusedVariables false
namespace Go.Proofs.YteoimkgjngdkdaaDoor.Ext
open Go.RowKit Go.Proofs.YteoimkgjngdkdaaDoorW.PrintWords
theorem cloneS_calls (A0 : Option Addr) (c0 : Nat) (l0 : List ByteArray) (w : World) (hr0 : Kd.C Kd.string w A0 l0.length l0) (hc0 : l0.length ≤ c0) (hl : l0.length ≤ 1000000000) :
    Calls Tryd.prog 22 #[.slice A0 l0.length c0] w fun e w' => ∃ v : Value, e = .returned v ∧ Kd.R Kd.string 9 w' w.heap.size (fun _ => True) v l0 ∧ Below w.heap.size w w' := by
  cases A0 with
  | none =>
    have hz : l0 = [] := by
      refine List.eq_nil_of_length_eq_zero (Nat.eq_zero_of_not_pos fun hp => ?_)
      obtain ⟨ad, he, _⟩ := hr0.2.2 hp
      cases he
    subst hz
    refine (Tryd.slices_Clone_string_nil 0 c0 w).mono ?_
    rintro e w1 ⟨rfl, rfl⟩
    exact ⟨_, rfl, Kd.R_nil _ _ _ _ _, Below.refl _ _⟩
  | some ad =>
    have key : Calls Tryd.prog 22 #[.slice (some ad) l0.length c0] w fun e w' => ∃ v', e = .returned v' ∧ w'.ownsRow w.heap.size 9 1 v' l0.length (l0.map Value.string) ∧ v' ≠ .slice none 0 0 ∧ Below w.heap.size w w' := by
      by_cases hz : l0.length = 0
      · have hz2 : l0 = [] := List.eq_nil_of_length_eq_zero hz
        subst hz2
        exact Tryd.slices_Clone_string_zero ad c0 w
      · have hro := Kd.reads_of_C (enc := Value.string) (d := ByteArray.empty) (h1 := fun _ => rfl) hr0
        obtain ⟨ad', he, hc⟩ := hro.2.2 (by omega)
        injection he with he
        subst he
        have h0 := hc 0 (by omega)
        have hsp : ad.spot = none := World.cell?_spot (show w.cell? ad = _ from h0)
        obtain ⟨b, off, sp⟩ := ad
        cases hsp
        have hcl := Tryd.slices_Clone_string b off l0.length c0 l0 w (Nat.le_refl _) (by omega) (fun j hj => by
          have := hc j hj
          by_cases hj0 : j = 0
          · subst hj0; exact this
          · simpa [Addr.add, hj0] using this)
        rw [List.take_length] at hcl
        exact hcl
    refine key.mono ?_
    rintro e w1 ⟨v, rfl, hown, _, hb⟩
    exact ⟨v, rfl, Kd.R_of_own hown (fun _ _ => trivial), hb⟩
end Go.Proofs.YteoimkgjngdkdaaDoor.Ext

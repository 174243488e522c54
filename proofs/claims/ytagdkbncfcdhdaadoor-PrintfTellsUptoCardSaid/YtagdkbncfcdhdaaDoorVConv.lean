/- What printf.Conversions' call answers: how many words one time takes. Condition: the format is of at most 10 to the 9 octets. -/
import Derived.Test.YtagdkbncfcdhdaaDoorVFormat9
set_option linter.unusedVariables false
namespace Go.Proofs.YtagdkbncfcdhdaaDoor.Ext
open Go.RowKit Go.Proofs.YtagdkbncfcdhdaaDoorW.PrintWords
def printf_Conversions.f (a0 : ByteArray) : Option Int :=
  if a0.size ≤ 1000000000 then (onceF 200 (a0.size + 1) a0 ⟨[], [], 0, 0⟩).map fun r => r.1.taken else none
set_option maxHeartbeats 4000000 in
set_option maxRecDepth 100000 in
theorem printf_Conversions.calls (a0 : ByteArray) (r : Int) (w : World) (h : printf_Conversions.f a0 = some r) :
    Calls Tryd.prog 14 #[.string a0] w fun e w' => e = .returned (.int .i64 r) ∧ Below w.heap.size w w' := by
  unfold printf_Conversions.f at h
  split at h
  case isFalse => cases h
  rename_i hsz
  obtain ⟨⟨R, ok⟩, hR, hE⟩ := Option.map_eq_some_iff.1 h
  subst hE
  clear h
  have HR := Lib.hid hR
  have HSZ := Lib.hid hsz
  have HT := Lib.hid (Tl.fresh none 0 [] w (Kd.C_nil Kd.string w) (Nat.le_refl _))
  clear hR hsz
  go_enter Tryd.func14, Tryd.ntmps14
  go_wp2_with fail
  refine (once_calls w w.heap.size 200 (a0.size + 1) a0 _ R ok _ HT.out HR.out HSZ.out).mono ?_
  rintro e w2 ⟨rfl, ht2⟩
  have HT2 := Lib.hid ht2
  clear ht2
  obtain ⟨⟨A2, c2, e2⟩, e4⟩ := HT2.out.cell24
  go_wp2_with fail
  go_ret
  obtain ⟨A3, c3, g1, g2, g3, g4⟩ := HT2.out
  exact ⟨rfl, g4⟩
end Go.Proofs.YtagdkbncfcdhdaaDoor.Ext

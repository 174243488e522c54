/- Proved: chapter 20's alive answers true. No condition. -/
import Derived.Test.YteoimkgjngdkdaaDoorVcP2
import Derived.Test.YteoimkgjngdkdaaDoorVcTextV
import Derived.KernelRfl
set_option linter.unusedVariables false
set_option linter.unusedSimpArgs false
namespace Go.Proofs.YteoimkgjngdkdaaDoor.Ext
open Go.RowKit Go.Shelf Go.Proofs.YteoimkgjngdkdaaDoorW.PrintWords Go.Proofs.YteoimkgjngdkdaaDoor.P
def xv : S53 := ⟨⟨#[120]⟩, ⟨#[97]⟩, false, []⟩
theorem put_alive : vars_Put.f 9 [] [] 0 ⟨#[120]⟩ ⟨#[97]⟩ = some ([xv], [], 0, 0) := by kernel_rfl
theorem text_alive : vars_Text.f [xv] [] 0 ⟨#[120]⟩ = some (⟨#[97]⟩, true) := by
  unfold vars_Text.f
  rw [if_pos ⟨by decide +kernel, by decide, fun _ => by kernel_rfl⟩]
  kernel_rfl
theorem C_nil {α : Type} (d : Kd α) (w : World) (A : Option Addr) : Kd.C d w A ([] : List α).length [] := ⟨rfl, by simp, fun h => absurd h (by simp)⟩
set_option maxHeartbeats 8000000 in
set_option maxRecDepth 100000 in
theorem alive_calls (w : World) : Calls Tryd.prog 6 #[] w fun e w' => e = .returned (.bool true) ∧ Below w.heap.size w w' := by
  have HP := Lib.hid (fun w => vars_Put.calls 9 none 0 [] none 0 [] 0 ⟨#[120]⟩ ⟨#[97]⟩ [xv] [] 0 0 w (C_nil _ _ _) (Nat.le_refl _) (C_nil _ _ _) (Nat.le_refl _) put_alive)
  go_enter Tryd.func6, Tryd.ntmps6
  go_wp2_with fail
  refine (HP.out _).mono ?_
  rintro e w1 ⟨v0, v1, rfl, hN, hR, hb1⟩
  obtain ⟨A0, c0, rfl, hl0, hC0⟩ := Kd.N_reads hN
  obtain ⟨A1, c1, rfl, hl1, hC1⟩ := Kd.R_reads hR
  clear hN hR
  go_wp2_with fail
  have hb2 : Below w1.heap.size w1 (w1.alloc (.cells #[.slice A0 1 c0, .slice A1 0 c1, .int .i64 0] 27)) := (Below.refl _ _).alloc (Nat.le_refl _) _
  have HB2 := Lib.hid (hb1.trans (hb2.mono hb1.size))
  refine (vars_Text.calls A0 c0 [xv] A1 c1 [] 0 ⟨#[120]⟩ ⟨#[97]⟩ true _ (Kd.C_below hC0 hb2) hl0 (C_nil _ _ _) (Nat.zero_le _) text_alive).mono ?_
  rintro e w3 ⟨rfl, hb3⟩
  have HB3 := Lib.hid (HB2.out.trans (hb3.mono HB2.out.size))
  have HN := Lib.hid (fun w => cowrielaw20_num.calls 0 0 w rfl)
  clear hb1 hb2 hb3 hC0 hC1
  go_wp2_with fail
  refine (HN.out _).mono ?_
  rintro e w4 ⟨rfl, hd⟩
  have HB4 := Lib.hid (HB3.out.trans ((drawn_below hd).mono HB3.out.size))
  clear hd
  go_wp2_with fail
  go_ret
  exact ⟨rfl, HB4.out⟩
def cowrielaw20_alive.f : Option Bool := some true
theorem cowrielaw20_alive.calls (r : Bool) (w : World) (h : cowrielaw20_alive.f = some r) : Calls Tryd.prog 6 #[] w fun e w' => e = .returned (.bool r) ∧ Below w.heap.size w w' := by
  obtain rfl := Option.some.inj h
  exact alive_calls w
end Go.Proofs.YteoimkgjngdkdaaDoor.Ext

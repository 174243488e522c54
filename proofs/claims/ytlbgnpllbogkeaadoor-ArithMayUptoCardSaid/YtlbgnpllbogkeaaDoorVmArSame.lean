/- Proved: cowrieref05.Same's call answers true at one expression that stands in two places. -/
import Derived.Test.YtlbgnpllbogkeaaDoorVmArDeep
import Derived.Test.YtlbgnpllbogkeaaDoorVmArW3
import Derived.Deep.RegionHeld3
set_option linter.unusedVariables false
set_option linter.unusedSimpArgs false
namespace Go.Proofs.YtlbgnpllbogkeaaDoor.Ext
open Go.RowKit Go.Proofs.YtlbgnpllbogkeaaDoorW.PrintWords
def SameC (x : E) : Prop := ∀ (A B : Option Addr) (c c' : Nat) (w : World) (ok ok' : Nat → Prop), SumR w ok x [.string x.op, .string x.name, .int .i64 x.num, .slice A x.kids.length c] → SumR w ok' x [.string x.op, .string x.name, .int .i64 x.num, .slice B x.kids.length c'] →
    Calls Tryd.prog 11 #[.agg #[.string x.op, .string x.name, .int .i64 x.num, .slice A x.kids.length c], .agg #[.string x.op, .string x.name, .int .i64 x.num, .slice B x.kids.length c']] w fun e w' => e = .returned (.bool true) ∧ Below w.heap.size w w'
set_option maxHeartbeats 8000000 in
theorem same_step (x : E) (ih : ∀ k ∈ x.kids, SameC k) : SameC x := by
  intro A B c c' w ok ok' h h'
  have hmx : x.kids.length ≤ 9223372036854775807 := by obtain ⟨_, _, _, _, hm⟩ := h.inv; exact hm
  have h1 := (Below.refl _ w).alloc (Nat.le_refl _) (oneO x A c)
  have b1 := Bx.new w #[.string x.op, .string x.name, .int .i64 x.num, .slice A x.kids.length c]
  have hs1 := h.bel h1
  have hs2 := h'.bel h1
  have e1 : (w.alloc (oneO x A c)).heap.size = w.heap.size + 1 := by simp
  obtain ⟨w1, hw1⟩ : ∃ w1, w1 = w.alloc (oneO x A c) := ⟨_, rfl⟩
  rw [show w.alloc (.cells #[.string x.op, .string x.name, .int .i64 x.num, .slice A x.kids.length c] 25) = w1 from hw1.symm] at b1
  rw [← hw1] at h1 hs1 hs2 e1
  have h2 := (Below.refl _ w1).alloc (Nat.le_refl _) (oneO x B c')
  have b2 := Bx.new w1 #[.string x.op, .string x.name, .int .i64 x.num, .slice B x.kids.length c']
  rw [e1] at b2
  have HA := Lib.hid (hs1.bel h2)
  have HB := Lib.hid (hs2.bel h2)
  have B1 := Lib.hid (b1.bel h2)
  have B2 := Lib.hid b2
  have HBL := Lib.hid (below_step h1 h2)
  rw [hw1] at HA HB B1 B2 HBL
  have HMX := Lib.hid hmx
  have HIH := Lib.hid ih
  have mixed : Tryd.prog.follows Departure.mixedOrders = true := by kernel_rfl
  clear h h' h1 b1 hs1 hs2 e1 hw1 h2 b2 hmx ih
  go_enter Tryd.func11, Tryd.ntmps11
  go_wp2_with fail
  obtain ⟨w0, hw0⟩ : ∃ w0, w0 = ((w.alloc (.cells #[.string x.op, .string x.name, .int .i64 x.num, .slice A x.kids.length c] 25)).alloc (.cells #[.string x.op, .string x.name, .int .i64 x.num, .slice B x.kids.length c'] 25)) := ⟨_, rfl⟩
  rw [show (w.alloc (oneO x A c)).alloc (oneO x B c') = w0 from hw0.symm] at HA HB B1 B2 HBL
  rw [← hw0]
  clear hw0
  go_loopw [5] (fun n wr => ∃ (j : Nat), n = .int .i64 j ∧ j ≤ x.kids.length ∧ Below w0.heap.size w0 wr) (fun n _ => x.kids.length - (intOf n).toNat)
  case atStart => exact ⟨0, rfl, Nat.zero_le _, Below.refl _ _⟩
  case round =>
    obtain ⟨j, rfl, hj, hbr⟩ := hrel
    have HBR := Lib.hid hbr
    have hmx := HMX.out
    have y3 := (B1.out.bel hbr).c 3
    have z3 := (B2.out.bel hbr).c 3
    clear hbr
    by_cases hlt : j < x.kids.length
    · obtain ⟨ad, A1, c1, hAe, hS1, x0, x1, x2, x3⟩ := (HA.out.bel HBR.out).kid (List.getElem?_eq_getElem hlt)
      obtain ⟨ad', A2, c2, hBe, hS2, v0, v1, v2, v3⟩ := (HB.out.bel HBR.out).kid (List.getElem?_eq_getElem hlt)
      subst hAe
      subst hBe
      have hc := HIH.out _ (List.getElem_mem hlt)
      generalize x.kids[j] = kj at *
      have HC := Lib.hid (fun W hW => hc A1 A2 c1 c2 W _ _ (hS1.bel hW) (hS2.bel hW))
      have hi0 : (0 : Int) ≤ (j : Int) := by omega
      have hi1 : (j : Int) < (x.kids.length : Int) := by omega
      clear hc hS1 hS2
      go_wp2_with fail
      go_region_law (go_simp; go_at_call 11; (with_reducible refine (HC.out _ (by first | exact Below.refl _ _ | exact (Below.refl _ _).drew)).mono ?_); rintro e w3 ⟨rfl, hb3⟩; dsimp only)
      all_goals (
        have HB3 := Lib.hid (below_step HBR.out (below_step (below_drew (Below.refl _ wr)) hb3))
        clear hb3
        go_wp2_with fail
        go_roundw
        (case rel => exact ⟨j + 1, by go_num, by omega, HB3.out⟩)
        (case measure => simp [intOf]; omega))
    · have hje : j = x.kids.length := by omega
      subst hje
      go_wp2_with fail
      go_ret
      exact ⟨rfl, below_step HBL.out HBR.out⟩
theorem same_calls (x : E) : SameC x := by
  refine E.ind (P := SameC) (fun op name n kids ih => same_step _ ih) x
end Go.Proofs.YtlbgnpllbogkeaaDoor.Ext

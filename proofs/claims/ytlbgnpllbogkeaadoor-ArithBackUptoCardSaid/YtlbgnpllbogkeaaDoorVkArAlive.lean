/- Proved: cowrieref05.Same's call answers true at one expression that stands in two places. Proved: cowrielaw05.alive's call answers true; num's. Condition: the table of blanks holds what its initialiser lays. -/
import Derived.Test.YtlbgnpllbogkeaaDoorVkArDeep
import Derived.Test.YtlbgnpllbogkeaaDoorVkArW3
import Derived.Deep.RegionHeld3
import Derived.Test.YtlbgnpllbogkeaaDoorVkArParse
section
set_option linter.unusedVariables false
set_option linter.unusedSimpArgs false
namespace Go.Proofs.YtlbgnpllbogkeaaDoor.Ext
open Go.RowKit Go.Proofs.YtlbgnpllbogkeaaDoorW.PrintWords
def SameC (x : E) : Prop := ∀ (A B : Option Addr) (c c' : Nat) (w : World) (ok ok' : Nat → Prop), SumR w ok x [.string x.op, .string x.name, .int .i64 x.num, .slice A x.kids.length c] → SumR w ok' x [.string x.op, .string x.name, .int .i64 x.num, .slice B x.kids.length c'] →
    Calls Tryd.prog 11 #[.agg #[.string x.op, .string x.name, .int .i64 x.num, .slice A x.kids.length c], .agg #[.string x.op, .string x.name, .int .i64 x.num, .slice B x.kids.length c']] w fun e w' => e = .returned (.bool true) ∧ Below w.heap.size w w'
set_option maxHeartbeats 8000000 in
theorem same_step (x : E) (ih : ∀ k ∈ x.kids, SameC k) : SameC x := by
  intro A B c c' w ok ok' h h'
  have hmx : x.kids.length ≤ 9223372036854775807 := by obtain ⟨_, _, _, _, hm⟩ := h.inv; exact hm
  have h1 := (Below.refl _ w).alloc (Nat.le_refl _) (oneO x A c)
  have b1 := Bx.new w #[.string x.op, .string x.name, .int .i64 x.num, .slice A x.kids.length c]
  have hs1 := h.bel h1
  have hs2 := h'.bel h1
  have e1 : (w.alloc (oneO x A c)).heap.size = w.heap.size + 1 := by simp
  obtain ⟨w1, hw1⟩ : ∃ w1, w1 = w.alloc (oneO x A c) := ⟨_, rfl⟩
  rw [show w.alloc (.cells #[.string x.op, .string x.name, .int .i64 x.num, .slice A x.kids.length c] 25) = w1 from hw1.symm] at b1
  rw [← hw1] at h1 hs1 hs2 e1
  have h2 := (Below.refl _ w1).alloc (Nat.le_refl _) (oneO x B c')
  have b2 := Bx.new w1 #[.string x.op, .string x.name, .int .i64 x.num, .slice B x.kids.length c']
  rw [e1] at b2
  have HA := Lib.hid (hs1.bel h2)
  have HB := Lib.hid (hs2.bel h2)
  have B1 := Lib.hid (b1.bel h2)
  have B2 := Lib.hid b2
  have HBL := Lib.hid (below_step h1 h2)
  rw [hw1] at HA HB B1 B2 HBL
  have HMX := Lib.hid hmx
  have HIH := Lib.hid ih
  have mixed : Tryd.prog.follows Departure.mixedOrders = true := by kernel_rfl
  clear h h' h1 b1 hs1 hs2 e1 hw1 h2 b2 hmx ih
  go_enter Tryd.func11, Tryd.ntmps11
  go_wp2_with fail
  obtain ⟨w0, hw0⟩ : ∃ w0, w0 = ((w.alloc (.cells #[.string x.op, .string x.name, .int .i64 x.num, .slice A x.kids.length c] 25)).alloc (.cells #[.string x.op, .string x.name, .int .i64 x.num, .slice B x.kids.length c'] 25)) := ⟨_, rfl⟩
  rw [show (w.alloc (oneO x A c)).alloc (oneO x B c') = w0 from hw0.symm] at HA HB B1 B2 HBL
  rw [← hw0]
  clear hw0
  go_loopw [5] (fun n wr => ∃ (j : Nat), n = .int .i64 j ∧ j ≤ x.kids.length ∧ Below w0.heap.size w0 wr) (fun n _ => x.kids.length - (intOf n).toNat)
  case atStart => exact ⟨0, rfl, Nat.zero_le _, Below.refl _ _⟩
  case round =>
    obtain ⟨j, rfl, hj, hbr⟩ := hrel
    have HBR := Lib.hid hbr
    have hmx := HMX.out
    have y3 := (B1.out.bel hbr).c 3
    have z3 := (B2.out.bel hbr).c 3
    clear hbr
    by_cases hlt : j < x.kids.length
    · obtain ⟨ad, A1, c1, hAe, hS1, x0, x1, x2, x3⟩ := (HA.out.bel HBR.out).kid (List.getElem?_eq_getElem hlt)
      obtain ⟨ad', A2, c2, hBe, hS2, v0, v1, v2, v3⟩ := (HB.out.bel HBR.out).kid (List.getElem?_eq_getElem hlt)
      subst hAe
      subst hBe
      have hc := HIH.out _ (List.getElem_mem hlt)
      generalize x.kids[j] = kj at *
      have HC := Lib.hid (fun W hW => hc A1 A2 c1 c2 W _ _ (hS1.bel hW) (hS2.bel hW))
      have hi0 : (0 : Int) ≤ (j : Int) := by omega
      have hi1 : (j : Int) < (x.kids.length : Int) := by omega
      clear hc hS1 hS2
      go_wp2_with fail
      go_region_law (go_simp; go_at_call 11; (with_reducible refine (HC.out _ (by first | exact Below.refl _ _ | exact (Below.refl _ _).drew)).mono ?_); rintro e w3 ⟨rfl, hb3⟩; dsimp only)
      all_goals (
        have HB3 := Lib.hid (below_step HBR.out (below_step (below_drew (Below.refl _ wr)) hb3))
        clear hb3
        go_wp2_with fail
        go_roundw
        (case rel => exact ⟨j + 1, by go_num, by omega, HB3.out⟩)
        (case measure => simp [intOf]; omega))
    · have hje : j = x.kids.length := by omega
      subst hje
      go_wp2_with fail
      go_ret
      exact ⟨rfl, below_step HBL.out HBR.out⟩
theorem same_calls (x : E) : SameC x := by
  refine E.ind (P := SameC) (fun op name n kids ih => same_step _ ih) x
end Go.Proofs.YtlbgnpllbogkeaaDoor.Ext
end

section
set_option linter.unusedVariables false
set_option linter.unusedSimpArgs false
namespace Go.Proofs.YtlbgnpllbogkeaaDoor.Ext
open Go.RowKit Go.Proofs.YtlbgnpllbogkeaaDoorW.PrintWords
theorem laid_tail {P : Program} {W : World} {x : String × DataW Unit} {rest : List (String × DataW Unit)} (h : laidMet P (x :: rest) W) : laidMet P rest W := by
  obtain ⟨n, d⟩ := x
  obtain ⟨ps, ⟨g, t, cs, fuel, p, q, h1, h2, h3, h4, hq, rfl⟩, nd, hc⟩ := h
  exact ⟨q, hq, (List.nodup_append.1 nd).2.1, fun b off hm => hc b off (List.mem_append_right _ hm)⟩
def aliveT : ByteArray := ⟨#[49, 32, 43, 32, 50, 32, 42, 32, 120]⟩
theorem alive_parse : parseS aliveT false = (bi ⟨#[43]⟩ (numE 1) (bi ⟨#[42]⟩ (numE 2) (varE ⟨#[120]⟩)), 9, 0) := by kernel_rfl
theorem num_calls (n : Int) (w : World) : Calls Tryd.prog 9 #[.int .i64 n] w fun e w' => e = .returned (.int .i64 n) ∧ Below w.heap.size w w' := by
  go_enter Tryd.func9, Tryd.ntmps9
  go_wp2
  go_ret
  exact ⟨rfl, Below.refl _ _⟩
set_option maxHeartbeats 4000000 in
theorem alive_calls (w : World) (hT : Tab w) : Calls Tryd.prog 7 #[] w fun e w' => e = .returned (.bool true) ∧ Below w.heap.size w w' := by
  have HC := Lib.hid (Parse_calls aliveT false w hT (by decide))
  rw [alive_parse] at HC
  replace HC := Lib.hid (show Calls Tryd.prog 8 #[.string aliveT, .bool false] w fun e w' => ∃ A c, e = .returned (.tuple #[.agg #[.string ⟨#[43]⟩, .string ⟨#[]⟩, .int .i64 0, .slice A 2 c], .int .i64 9, .int .i64 0]) ∧
    SumR w' (w.heap.size ≤ ·) (bi ⟨#[43]⟩ (numE 1) (bi ⟨#[42]⟩ (numE 2) (varE ⟨#[120]⟩))) [.string ⟨#[43]⟩, .string ⟨#[]⟩, .int .i64 0, .slice A 2 c] ∧ Below w.heap.size w w' from HC.out)
  have HNC := Lib.hid num_calls
  clear hT
  go_enter Tryd.func7, Tryd.ntmps7
  go_wp2_with fail
  refine HC.out.mono ?_
  rintro e w1 ⟨A, c, rfl, hS, hb1⟩
  have hbo := (Below.refl _ w1).alloc (Nat.le_refl _) (.cells #[.string ⟨#[43]⟩, .string ⟨#[]⟩, .int .i64 0, .slice A 2 c] 25)
  have hN := Bx.new w1 #[.string ⟨#[43]⟩, .string ⟨#[]⟩, .int .i64 0, .slice A 2 c]
  have HS := Lib.hid (hS.bel hbo)
  have HB := Lib.hid (below_step hb1 hbo)
  have HN := Lib.hid hN
  have HB1 := Lib.hid hb1
  clear hS hb1 hbo hN HC
  go_wp2_with fail
  refine (HNC.out 0 _).mono ?_
  rintro e w2 ⟨rfl, hb2⟩
  have HN2 := Lib.hid (HN.out.bel hb2)
  have HB2 := Lib.hid (below_step HB.out hb2)
  obtain ⟨ad, A1, c1, hAe, hS1, x0, x1, x2, x3⟩ := (HS.out.bel hb2).kid (j := 1) (k := bi ⟨#[42]⟩ (numE 2) (varE ⟨#[120]⟩)) rfl
  subst hAe
  have x9 : w2.cell? ⟨ad.block, ad.off + 4, none⟩ = some (.string ⟨#[42]⟩) := x0
  obtain ⟨q0, q1, q2, q3, q4, q5, q6, q7⟩ := HN2.out.all
  clear hb2 hS1 x0 x1 x2 x3 q4 q5 q6 q7
  go_wp2_with fail
  go_ret
  exact ⟨rfl, HB2.out⟩
end Go.Proofs.YtlbgnpllbogkeaaDoor.Ext
end

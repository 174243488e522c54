/- Proved: cowrielaw05.alive's call answers true; num's. Condition: the table of blanks holds what its initialiser lays. -/
import Derived.Test.YtlbgnpllbogkeaaDoorVmArParse
import Derived.Test.YtlbgnpllbogkeaaDoorVmArSame
set_option linter.unusedVariables false
set_option linter.unusedSimpArgs false
namespace Go.Proofs.YtlbgnpllbogkeaaDoor.Ext
open Go.RowKit Go.Proofs.YtlbgnpllbogkeaaDoorW.PrintWords
theorem laid_tail {P : Program} {W : World} {x : String × DataW Unit} {rest : List (String × DataW Unit)} (h : laidMet P (x :: rest) W) : laidMet P rest W := by
  obtain ⟨n, d⟩ := x
  obtain ⟨ps, ⟨g, t, cs, fuel, p, q, h1, h2, h3, h4, hq, rfl⟩, nd, hc⟩ := h
  exact ⟨q, hq, (List.nodup_append.1 nd).2.1, fun b off hm => hc b off (List.mem_append_right _ hm)⟩
def aliveT : ByteArray := ⟨#[49, 32, 43, 32, 50, 32, 42, 32, 120]⟩
theorem alive_parse : parseS aliveT false = (bi ⟨#[43]⟩ (numE 1) (bi ⟨#[42]⟩ (numE 2) (varE ⟨#[120]⟩)), 9, 0) := by kernel_rfl
theorem num_calls (n : Int) (w : World) : Calls Tryd.prog 9 #[.int .i64 n] w fun e w' => e = .returned (.int .i64 n) ∧ Below w.heap.size w w' := by
  go_enter Tryd.func9, Tryd.ntmps9
  go_wp2
  go_ret
  exact ⟨rfl, Below.refl _ _⟩
set_option maxHeartbeats 4000000 in
theorem alive_calls (w : World) (hT : Tab w) : Calls Tryd.prog 7 #[] w fun e w' => e = .returned (.bool true) ∧ Below w.heap.size w w' := by
  have HC := Lib.hid (Parse_calls aliveT false w hT (by decide))
  rw [alive_parse] at HC
  replace HC := Lib.hid (show Calls Tryd.prog 8 #[.string aliveT, .bool false] w fun e w' => ∃ A c, e = .returned (.tuple #[.agg #[.string ⟨#[43]⟩, .string ⟨#[]⟩, .int .i64 0, .slice A 2 c], .int .i64 9, .int .i64 0]) ∧
    SumR w' (w.heap.size ≤ ·) (bi ⟨#[43]⟩ (numE 1) (bi ⟨#[42]⟩ (numE 2) (varE ⟨#[120]⟩))) [.string ⟨#[43]⟩, .string ⟨#[]⟩, .int .i64 0, .slice A 2 c] ∧ Below w.heap.size w w' from HC.out)
  have HNC := Lib.hid num_calls
  clear hT
  go_enter Tryd.func7, Tryd.ntmps7
  go_wp2_with fail
  refine HC.out.mono ?_
  rintro e w1 ⟨A, c, rfl, hS, hb1⟩
  have hbo := (Below.refl _ w1).alloc (Nat.le_refl _) (.cells #[.string ⟨#[43]⟩, .string ⟨#[]⟩, .int .i64 0, .slice A 2 c] 25)
  have hN := Bx.new w1 #[.string ⟨#[43]⟩, .string ⟨#[]⟩, .int .i64 0, .slice A 2 c]
  have HS := Lib.hid (hS.bel hbo)
  have HB := Lib.hid (below_step hb1 hbo)
  have HN := Lib.hid hN
  have HB1 := Lib.hid hb1
  clear hS hb1 hbo hN HC
  go_wp2_with fail
  refine (HNC.out 0 _).mono ?_
  rintro e w2 ⟨rfl, hb2⟩
  have HN2 := Lib.hid (HN.out.bel hb2)
  have HB2 := Lib.hid (below_step HB.out hb2)
  obtain ⟨ad, A1, c1, hAe, hS1, x0, x1, x2, x3⟩ := (HS.out.bel hb2).kid (j := 1) (k := bi ⟨#[42]⟩ (numE 2) (varE ⟨#[120]⟩)) rfl
  subst hAe
  have x9 : w2.cell? ⟨ad.block, ad.off + 4, none⟩ = some (.string ⟨#[42]⟩) := x0
  obtain ⟨q0, q1, q2, q3, q4, q5, q6, q7⟩ := HN2.out.all
  clear hb2 hS1 x0 x1 x2 x3 q4 q5 q6 q7
  go_wp2_with fail
  go_ret
  exact ⟨rfl, HB2.out⟩
end Go.Proofs.YtlbgnpllbogkeaaDoor.Ext

/- Proved: arith.Parse's deferred function: its calls while a fault is on its way, and idle. -/
import Derived.Test.YtlbgnpllbogkeaaDoorVmArNext
import Derived.Test.YtlbgnpllbogkeaaDoorVmArDeep
import Derived.Defers
import Derived.Recover
import Derived.Laws.Pointers
set_option linter.unusedVariables false
set_option linter.unusedSimpArgs false
namespace Go.Proofs.YtlbgnpllbogkeaaDoor.Ext
open Go.RowKit Go.Proofs.YtlbgnpllbogkeaaDoorW.PrintWords
theorem ta_fault (w : World) (a c : Nat) : (Instr.typeAssert (faultV a c) 20 40 true).run Tryd.prog w = .ok (.tuple #[.agg #[.int .i64 a, .int .i64 c], .bool true]) w := by
  simp [Instr.typeAssert, run_underlying Tryd.underlying40, go_sem, Result.andThen]
theorem ta_nil (w : World) : (Instr.typeAssert .nilIface 20 40 true).run Tryd.prog w = .ok (.tuple #[.agg #[.int .i64 0, .int .i64 0], .bool false]) w := by
  simp [Instr.typeAssert, run_underlying Tryd.underlying40, go_sem, Result.andThen, Tryd.zeroValue40]
/-- The three results' cells of Parse. -/
structure R3 (w W : World) (c0 c1 c2 c3 v1 v2 : Value) : Prop where
  b0 : Bx W w.heap.size #[c0, c1, c2, c3]
  b1 : Bk W (w.heap.size + 1) 3 #[v1]
  b2 : Bk W (w.heap.size + 1 + 1) 26 #[v2]
  bel : Below w.heap.size w W
theorem R3.next {w W W1 : World} {c0 c1 c2 c3 v1 v2 : Value} (h : R3 w W c0 c1 c2 c3 v1 v2) (hb : Below W.heap.size W W1) : R3 w W1 c0 c1 c2 c3 v1 v2 := ⟨h.b0.bel hb, h.b1.bel hb, h.b2.bel hb, below_step h.bel hb⟩
theorem R3.grown {w W W1 : World} {c0 c1 c2 c3 v1 v2 : Value} {pb : Nat} (h : R3 w W c0 c1 c2 c3 v1 v2) (hg : W.grownBy W1 (some pb)) (hp : w.heap.size + 1 + 1 < pb) : R3 w W1 c0 c1 c2 c3 v1 v2 :=
  ⟨h.b0.grown hg (by omega), h.b1.grown hg (by omega), h.b2.grown hg (by omega), ⟨hg.os.trans h.bel.os, hg.tape.trans h.bel.tape, hg.output.trans h.bel.output, Nat.le_trans h.bel.size hg.size, fun k hk => (hg.block k (Nat.lt_of_lt_of_le hk h.bel.size) (fun e => by injection e with e; omega)).trans (h.bel.block k hk)⟩⟩
theorem R3.setN {w0 w1 : World} {c0 c1 c2 c3 v1 v2 : Value} (h : R3 w0 w1 c0 c1 c2 c3 v1 v2) (u0 u1 u2 u3 y1 y2 : Value) : R3 w0 ((((((w1.setCell ⟨w0.heap.size, 0, none⟩ u0).setCell ⟨w0.heap.size, 1, none⟩ u1).setCell ⟨w0.heap.size, 2, none⟩ u2).setCell ⟨w0.heap.size, 3, none⟩ u3).setCell ⟨w0.heap.size + 1, 0, none⟩ y1).setCell ⟨w0.heap.size + 1 + 1, 0, none⟩ y2) u0 u1 u2 u3 y1 y2 := by
  have g1 := grown_box4 (w := w1) (b := w0.heap.size) u0 u1 u2 u3
  have h1 := h.b0.set4 u0 u1 u2 u3
  have hl1 := h.b1.lt
  have hl2 := h.b2.lt
  have k1 := h.b1.grown g1 (by omega)
  have k2 := h.b2.grown g1 (by omega)
  have hbl := below_box4 h.bel (Nat.le_refl _) u0 u1 u2 u3
  generalize ((((w1.setCell ⟨w0.heap.size, 0, none⟩ u0).setCell ⟨w0.heap.size, 1, none⟩ u1).setCell ⟨w0.heap.size, 2, none⟩ u2).setCell ⟨w0.heap.size, 3, none⟩ u3) = w2 at *
  have g2 : w2.grownBy (w2.setCell ⟨w0.heap.size + 1, 0, none⟩ y1) (some (w0.heap.size + 1)) := grown_set 0 y1
  have h2 := h1.grown g2 (by omega)
  have k22 := k2.grown g2 (by omega)
  have m1 : Bk (w2.setCell ⟨w0.heap.size + 1, 0, none⟩ y1) (w0.heap.size + 1) 3 #[y1] := heap_setCell_same _ _ 0 _ _ _ k1
  have hb2 := hbl.setCell (p := ⟨w0.heap.size + 1, 0, none⟩) (Nat.le_succ _) y1
  generalize w2.setCell ⟨w0.heap.size + 1, 0, none⟩ y1 = w3 at *
  have g3 : w3.grownBy (w3.setCell ⟨w0.heap.size + 1 + 1, 0, none⟩ y2) (some (w0.heap.size + 1 + 1)) := grown_set 0 y2
  exact ⟨h2.grown g3 (by omega), m1.grown g3 (by omega), heap_setCell_same _ _ 0 _ _ _ k22, (hb2.setCell (p := ⟨w0.heap.size + 1 + 1, 0, none⟩) (Nat.le_succ_of_le (Nat.le_succ _)) y2)⟩
theorem R3.set {w0 w1 : World} {c0 c1 c2 c3 v1 v2 : Value} (h : R3 w0 w1 c0 c1 c2 c3 v1 v2) (u0 u1 u2 u3 y1 y2 : Value) : R3 w0 ((((((w1.setCell ⟨w0.heap.size, 0, none⟩ u0).setCell ⟨w0.heap.size, 1, none⟩ u1).setCell ⟨w0.heap.size, 2, none⟩ u2).setCell ⟨w0.heap.size, 3, none⟩ u3).setCell ⟨w0.heap.size + 1, 0, none⟩ y1).setCell ⟨w0.heap.size + 1 + 1, 0, none⟩ y2).drew u0 u1 u2 u3 y1 y2 := (h.setN u0 u1 u2 u3 y1 y2).next (Below.refl _ _).drew
theorem R3.setX {w0 w1 : World} {c0 c1 c2 c3 v1 v2 : Value} (h : R3 w0 w1 c0 c1 c2 c3 v1 v2) (u0 u1 u2 u3 : Value) : R3 w0 ((((w1.setCell ⟨w0.heap.size, 0, none⟩ u0).setCell ⟨w0.heap.size, 1, none⟩ u1).setCell ⟨w0.heap.size, 2, none⟩ u2).setCell ⟨w0.heap.size, 3, none⟩ u3) u0 u1 u2 u3 v1 v2 := by
  have g1 := grown_box4 (w := w1) (b := w0.heap.size) u0 u1 u2 u3
  exact ⟨h.b0.set4 u0 u1 u2 u3, h.b1.grown g1 (by omega), h.b2.grown g1 (by omega), below_box4 h.bel (Nat.le_refl _) u0 u1 u2 u3⟩
set_option maxHeartbeats 4000000 in
set_option maxRecDepth 100000 in
theorem catch_fault (a c : Nat) (c0 c1 c2 c3 v1 v2 : Value) (older : List PanicEntry) (w0 w : World) (h : R3 w0 w c0 c1 c2 c3 v1 v2) :
    CallsD Tryd.prog 18 #[.pointer (some ⟨w0.heap.size, 0, none⟩), .pointer (some ⟨w0.heap.size + 1, 0, none⟩), .pointer (some ⟨w0.heap.size + 1 + 1, 0, none⟩)] (.panicking ({ v := faultV a c, recovered := false } :: older)) w fun e u' w' =>
      e = .returned (.tuple #[]) ∧ u' = .panicking ({ v := faultV a c, recovered := true } :: older) ∧ R3 w0 w' (.string ⟨#[]⟩) (.string ⟨#[]⟩) (.int .i64 0) (.slice none 0 0) (.int .i64 a) (.int .i64 c) := by
  have hba := (Below.refl _ w).alloc (Nat.le_refl _) (.cells #[.int .i64 a, .int .i64 c] 40)
  have hn := Bk.new w 40 #[.int .i64 a, .int .i64 c]
  have h1 := h.next hba
  have y0 := hn.c 0
  have y1 := hn.c 1
  obtain ⟨z0, z1, z2, z3, z4, z5, z6, z7⟩ := h1.b0.all
  have q0 := h1.b1.c 0
  have q1 := h1.b1.f 0
  have p0 := h1.b2.c 0
  have p1 := h1.b2.f 0
  have H1 := Lib.hid h1
  have mixed : Tryd.prog.follows Departure.mixedOrders = true := by kernel_rfl
  have hsz := h.b2.lt
  have hq0 : w.heap.size ≠ w0.heap.size := by omega
  have hq1 : w.heap.size ≠ w0.heap.size + 1 := by omega
  have hq2 : w.heap.size ≠ w0.heap.size + 1 + 1 := by omega
  have hq3 : w0.heap.size ≠ w.heap.size := by omega
  have hq4 : w0.heap.size + 1 ≠ w.heap.size := by omega
  have hq5 : w0.heap.size + 1 + 1 ≠ w.heap.size := by omega
  clear h hba hn h1
  refine callsD_of_wpS Tryd.func18 rfl fun ch cs hu => ?_
  apply wpS_seq
  apply wpS_region
  simp [wpOpsS, go_sem, recoverD, hu, Tryd.ntmps18, Exit.thenS, ta_fault, Array.replicate]
  apply wpS_seq
  apply wpS_region
  simp [wpOpsS, go_sem, Exit.thenS]
  refine wpS_cond (t := true) (by simp [Act.eval]) ?_
  simp only [if_true]
  refine wpS_of_wp ?_
  generalize w.alloc (.cells #[.int .i64 a, .int .i64 c] 40) = w1 at *
  go_region_law (fail)
  all_goals (
    simp [bodyPostS, results, Tryd.results18]
    exact H1.out.set _ _ _ _ _ _)
set_option maxHeartbeats 4000000 in
set_option maxRecDepth 100000 in
theorem catch_none (p q r : Addr) (w : World) :
    CallsD Tryd.prog 18 #[.pointer (some p), .pointer (some q), .pointer (some r)] .returning w fun e u' w' => e = .returned (.tuple #[]) ∧ u' = .returning ∧ w' = w.alloc (.cells #[.int .i64 0, .int .i64 0] 40) := by
  refine callsD_of_wpS Tryd.func18 rfl fun ch cs hu => ?_
  apply wpS_seq
  apply wpS_region
  simp [wpOpsS, go_sem, recoverD, hu, Tryd.ntmps18, Exit.thenS, ta_nil, Array.replicate]
  apply wpS_seq
  apply wpS_region
  simp [wpOpsS, go_sem, Exit.thenS]
  refine wpS_cond (t := false) (by simp [Act.eval]) ?_
  simp only [Bool.false_eq_true, if_false]
  refine wpS_of_wp (wp_skip ?_)
  cases ch
  simp_all [bodyPostS, results, Tryd.results18]
end Go.Proofs.YtlbgnpllbogkeaaDoor.Ext

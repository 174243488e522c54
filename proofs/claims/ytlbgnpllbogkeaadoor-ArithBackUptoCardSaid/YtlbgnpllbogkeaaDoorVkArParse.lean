/- Proved: arith.Parse's deferred function: its calls while a fault is on its way, and idle. Proved: arith.Parse's call: the expression, the place and the error that the plain parser tells. Condition: the table of blanks holds what its initialiser lays. -/
import Derived.Test.YtlbgnpllbogkeaaDoorVkArNext
import Derived.Test.YtlbgnpllbogkeaaDoorVkArDeep
import Derived.Defers
import Derived.Recover
import Derived.Laws.Pointers
section
set_option linter.unusedVariables false
set_option linter.unusedSimpArgs false
namespace Go.Proofs.YtlbgnpllbogkeaaDoor.Ext
open Go.RowKit Go.Proofs.YtlbgnpllbogkeaaDoorW.PrintWords
theorem ta_fault (w : World) (a c : Nat) : (Instr.typeAssert (faultV a c) 20 40 true).run Tryd.prog w = .ok (.tuple #[.agg #[.int .i64 a, .int .i64 c], .bool true]) w := by
  simp [Instr.typeAssert, run_underlying Tryd.underlying40, go_sem, Result.andThen]
theorem ta_nil (w : World) : (Instr.typeAssert .nilIface 20 40 true).run Tryd.prog w = .ok (.tuple #[.agg #[.int .i64 0, .int .i64 0], .bool false]) w := by
  simp [Instr.typeAssert, run_underlying Tryd.underlying40, go_sem, Result.andThen, Tryd.zeroValue40]
/-- The three results' cells of Parse. -/
structure R3 (w W : World) (c0 c1 c2 c3 v1 v2 : Value) : Prop where
  b0 : Bx W w.heap.size #[c0, c1, c2, c3]
  b1 : Bk W (w.heap.size + 1) 3 #[v1]
  b2 : Bk W (w.heap.size + 1 + 1) 26 #[v2]
  bel : Below w.heap.size w W
theorem R3.next {w W W1 : World} {c0 c1 c2 c3 v1 v2 : Value} (h : R3 w W c0 c1 c2 c3 v1 v2) (hb : Below W.heap.size W W1) : R3 w W1 c0 c1 c2 c3 v1 v2 := ⟨h.b0.bel hb, h.b1.bel hb, h.b2.bel hb, below_step h.bel hb⟩
theorem R3.grown {w W W1 : World} {c0 c1 c2 c3 v1 v2 : Value} {pb : Nat} (h : R3 w W c0 c1 c2 c3 v1 v2) (hg : W.grownBy W1 (some pb)) (hp : w.heap.size + 1 + 1 < pb) : R3 w W1 c0 c1 c2 c3 v1 v2 :=
  ⟨h.b0.grown hg (by omega), h.b1.grown hg (by omega), h.b2.grown hg (by omega), ⟨hg.os.trans h.bel.os, hg.tape.trans h.bel.tape, hg.output.trans h.bel.output, Nat.le_trans h.bel.size hg.size, fun k hk => (hg.block k (Nat.lt_of_lt_of_le hk h.bel.size) (fun e => by injection e with e; omega)).trans (h.bel.block k hk)⟩⟩
theorem R3.setN {w0 w1 : World} {c0 c1 c2 c3 v1 v2 : Value} (h : R3 w0 w1 c0 c1 c2 c3 v1 v2) (u0 u1 u2 u3 y1 y2 : Value) : R3 w0 ((((((w1.setCell ⟨w0.heap.size, 0, none⟩ u0).setCell ⟨w0.heap.size, 1, none⟩ u1).setCell ⟨w0.heap.size, 2, none⟩ u2).setCell ⟨w0.heap.size, 3, none⟩ u3).setCell ⟨w0.heap.size + 1, 0, none⟩ y1).setCell ⟨w0.heap.size + 1 + 1, 0, none⟩ y2) u0 u1 u2 u3 y1 y2 := by
  have g1 := grown_box4 (w := w1) (b := w0.heap.size) u0 u1 u2 u3
  have h1 := h.b0.set4 u0 u1 u2 u3
  have hl1 := h.b1.lt
  have hl2 := h.b2.lt
  have k1 := h.b1.grown g1 (by omega)
  have k2 := h.b2.grown g1 (by omega)
  have hbl := below_box4 h.bel (Nat.le_refl _) u0 u1 u2 u3
  generalize ((((w1.setCell ⟨w0.heap.size, 0, none⟩ u0).setCell ⟨w0.heap.size, 1, none⟩ u1).setCell ⟨w0.heap.size, 2, none⟩ u2).setCell ⟨w0.heap.size, 3, none⟩ u3) = w2 at *
  have g2 : w2.grownBy (w2.setCell ⟨w0.heap.size + 1, 0, none⟩ y1) (some (w0.heap.size + 1)) := grown_set 0 y1
  have h2 := h1.grown g2 (by omega)
  have k22 := k2.grown g2 (by omega)
  have m1 : Bk (w2.setCell ⟨w0.heap.size + 1, 0, none⟩ y1) (w0.heap.size + 1) 3 #[y1] := heap_setCell_same _ _ 0 _ _ _ k1
  have hb2 := hbl.setCell (p := ⟨w0.heap.size + 1, 0, none⟩) (Nat.le_succ _) y1
  generalize w2.setCell ⟨w0.heap.size + 1, 0, none⟩ y1 = w3 at *
  have g3 : w3.grownBy (w3.setCell ⟨w0.heap.size + 1 + 1, 0, none⟩ y2) (some (w0.heap.size + 1 + 1)) := grown_set 0 y2
  exact ⟨h2.grown g3 (by omega), m1.grown g3 (by omega), heap_setCell_same _ _ 0 _ _ _ k22, (hb2.setCell (p := ⟨w0.heap.size + 1 + 1, 0, none⟩) (Nat.le_succ_of_le (Nat.le_succ _)) y2)⟩
theorem R3.set {w0 w1 : World} {c0 c1 c2 c3 v1 v2 : Value} (h : R3 w0 w1 c0 c1 c2 c3 v1 v2) (u0 u1 u2 u3 y1 y2 : Value) : R3 w0 ((((((w1.setCell ⟨w0.heap.size, 0, none⟩ u0).setCell ⟨w0.heap.size, 1, none⟩ u1).setCell ⟨w0.heap.size, 2, none⟩ u2).setCell ⟨w0.heap.size, 3, none⟩ u3).setCell ⟨w0.heap.size + 1, 0, none⟩ y1).setCell ⟨w0.heap.size + 1 + 1, 0, none⟩ y2).drew u0 u1 u2 u3 y1 y2 := (h.setN u0 u1 u2 u3 y1 y2).next (Below.refl _ _).drew
theorem R3.setX {w0 w1 : World} {c0 c1 c2 c3 v1 v2 : Value} (h : R3 w0 w1 c0 c1 c2 c3 v1 v2) (u0 u1 u2 u3 : Value) : R3 w0 ((((w1.setCell ⟨w0.heap.size, 0, none⟩ u0).setCell ⟨w0.heap.size, 1, none⟩ u1).setCell ⟨w0.heap.size, 2, none⟩ u2).setCell ⟨w0.heap.size, 3, none⟩ u3) u0 u1 u2 u3 v1 v2 := by
  have g1 := grown_box4 (w := w1) (b := w0.heap.size) u0 u1 u2 u3
  exact ⟨h.b0.set4 u0 u1 u2 u3, h.b1.grown g1 (by omega), h.b2.grown g1 (by omega), below_box4 h.bel (Nat.le_refl _) u0 u1 u2 u3⟩
set_option maxHeartbeats 4000000 in
set_option maxRecDepth 100000 in
theorem catch_fault (a c : Nat) (c0 c1 c2 c3 v1 v2 : Value) (older : List PanicEntry) (w0 w : World) (h : R3 w0 w c0 c1 c2 c3 v1 v2) :
    CallsD Tryd.prog 18 #[.pointer (some ⟨w0.heap.size, 0, none⟩), .pointer (some ⟨w0.heap.size + 1, 0, none⟩), .pointer (some ⟨w0.heap.size + 1 + 1, 0, none⟩)] (.panicking ({ v := faultV a c, recovered := false } :: older)) w fun e u' w' =>
      e = .returned (.tuple #[]) ∧ u' = .panicking ({ v := faultV a c, recovered := true } :: older) ∧ R3 w0 w' (.string ⟨#[]⟩) (.string ⟨#[]⟩) (.int .i64 0) (.slice none 0 0) (.int .i64 a) (.int .i64 c) := by
  have hba := (Below.refl _ w).alloc (Nat.le_refl _) (.cells #[.int .i64 a, .int .i64 c] 40)
  have hn := Bk.new w 40 #[.int .i64 a, .int .i64 c]
  have h1 := h.next hba
  have y0 := hn.c 0
  have y1 := hn.c 1
  obtain ⟨z0, z1, z2, z3, z4, z5, z6, z7⟩ := h1.b0.all
  have q0 := h1.b1.c 0
  have q1 := h1.b1.f 0
  have p0 := h1.b2.c 0
  have p1 := h1.b2.f 0
  have H1 := Lib.hid h1
  have mixed : Tryd.prog.follows Departure.mixedOrders = true := by kernel_rfl
  have hsz := h.b2.lt
  have hq0 : w.heap.size ≠ w0.heap.size := by omega
  have hq1 : w.heap.size ≠ w0.heap.size + 1 := by omega
  have hq2 : w.heap.size ≠ w0.heap.size + 1 + 1 := by omega
  have hq3 : w0.heap.size ≠ w.heap.size := by omega
  have hq4 : w0.heap.size + 1 ≠ w.heap.size := by omega
  have hq5 : w0.heap.size + 1 + 1 ≠ w.heap.size := by omega
  clear h hba hn h1
  refine callsD_of_wpS Tryd.func18 rfl fun ch cs hu => ?_
  apply wpS_seq
  apply wpS_region
  simp [wpOpsS, go_sem, recoverD, hu, Tryd.ntmps18, Exit.thenS, ta_fault, Array.replicate]
  apply wpS_seq
  apply wpS_region
  simp [wpOpsS, go_sem, Exit.thenS]
  refine wpS_cond (t := true) (by simp [Act.eval]) ?_
  simp only [if_true]
  refine wpS_of_wp ?_
  generalize w.alloc (.cells #[.int .i64 a, .int .i64 c] 40) = w1 at *
  go_region_law (fail)
  all_goals (
    simp [bodyPostS, results, Tryd.results18]
    exact H1.out.set _ _ _ _ _ _)
set_option maxHeartbeats 4000000 in
set_option maxRecDepth 100000 in
theorem catch_none (p q r : Addr) (w : World) :
    CallsD Tryd.prog 18 #[.pointer (some p), .pointer (some q), .pointer (some r)] .returning w fun e u' w' => e = .returned (.tuple #[]) ∧ u' = .returning ∧ w' = w.alloc (.cells #[.int .i64 0, .int .i64 0] 40) := by
  refine callsD_of_wpS Tryd.func18 rfl fun ch cs hu => ?_
  apply wpS_seq
  apply wpS_region
  simp [wpOpsS, go_sem, recoverD, hu, Tryd.ntmps18, Exit.thenS, ta_nil, Array.replicate]
  apply wpS_seq
  apply wpS_region
  simp [wpOpsS, go_sem, Exit.thenS]
  refine wpS_cond (t := false) (by simp [Act.eval]) ?_
  simp only [Bool.false_eq_true, if_false]
  refine wpS_of_wp (wp_skip ?_)
  cases ch
  simp_all [bodyPostS, results, Tryd.results18]
end Go.Proofs.YtlbgnpllbogkeaaDoor.Ext
end

section
set_option linter.unusedVariables false
set_option linter.unusedSimpArgs false
namespace Go.Proofs.YtlbgnpllbogkeaaDoor.Ext
open Go.RowKit Go.Proofs.YtlbgnpllbogkeaaDoorW.PrintWords
def parseS (s : ByteArray) (bash : Bool) : E × Nat × Nat := if 16384 < s.size then (zeroE, 0, 5) else parseTop (nextF s bash) litV s.size
/-- What Parse tells. -/
def ParseSay (r : E × Nat × Nat) (w : World) (e : Ending) (w' : World) : Prop := ∃ A c, e = .returned (.tuple #[.agg #[.string r.1.op, .string r.1.name, .int .i64 r.1.num, .slice A r.1.kids.length c], .int .i64 r.2.1, .int .i64 r.2.2]) ∧
  SumR w' (w.heap.size ≤ ·) r.1 [.string r.1.op, .string r.1.name, .int .i64 r.1.num, .slice A r.1.kids.length c] ∧ Below w.heap.size w w'
section
variable {w W : World} {c0 c1 c2 c3 v1 v2 : Value}
theorem R3.all (h : R3 w W c0 c1 c2 c3 v1 v2) : W.cell? ⟨w.heap.size, 0, none⟩ = some c0 ∧ W.cell? ⟨w.heap.size, 1, none⟩ = some c1 ∧ W.cell? ⟨w.heap.size, 2, none⟩ = some c2 ∧ W.cell? ⟨w.heap.size, 3, none⟩ = some c3 ∧ W.frozen? ⟨w.heap.size, 0, none⟩ = false ∧ W.frozen? ⟨w.heap.size, 1, none⟩ = false ∧ W.frozen? ⟨w.heap.size, 2, none⟩ = false ∧ W.frozen? ⟨w.heap.size, 3, none⟩ = false ∧
    W.cell? ⟨w.heap.size + 1, 0, none⟩ = some v1 ∧ W.frozen? ⟨w.heap.size + 1, 0, none⟩ = false ∧ W.cell? ⟨w.heap.size + 1 + 1, 0, none⟩ = some v2 ∧ W.frozen? ⟨w.heap.size + 1 + 1, 0, none⟩ = false :=
  ⟨h.b0.c 0, h.b0.c 1, h.b0.c 2, h.b0.c 3, h.b0.f 0, h.b0.f 1, h.b0.f 2, h.b0.f 3, h.b1.c 0, h.b1.f 0, h.b2.c 0, h.b2.f 0⟩
theorem r3_start (w : World) (u : Value) : R3 w (((w.alloc (.cells #[.string ⟨#[]⟩, .string ⟨#[]⟩, .int .i64 0, .slice none 0 0] 25)).alloc (.cells #[.int .i64 0] 3)).alloc (.cells #[u] 26)) (.string ⟨#[]⟩) (.string ⟨#[]⟩) (.int .i64 0) (.slice none 0 0) (.int .i64 0) u := by
  have h1 := (Below.refl _ w).alloc (Nat.le_refl _) zeroO
  have b1 := Bx.new w #[.string ⟨#[]⟩, .string ⟨#[]⟩, .int .i64 0, .slice none 0 0]
  have e1 : (w.alloc zeroO).heap.size = w.heap.size + 1 := by simp
  generalize w.alloc zeroO = w1 at *
  have h2 := (Below.refl _ w1).alloc (Nat.le_refl _) (.cells #[.int .i64 0] 3)
  have b2 := Bk.new w1 3 #[.int .i64 0]
  have e2 : (w1.alloc (.cells #[.int .i64 0] 3)).heap.size = w1.heap.size + 1 := by simp
  generalize w1.alloc (.cells #[.int .i64 0] 3) = w2 at *
  have h3 := (Below.refl _ w2).alloc (Nat.le_refl _) (.cells #[u] 26)
  have b3 := Bk.new w2 26 #[u]
  rw [e1] at b2 e2
  rw [e2] at b3
  exact ⟨(b1.bel h2).bel h3, b2.bel h3, b3, below_step (below_step h1 h2) h3⟩
end
theorem set_keeps {w0 w1 : World} {x : E} {cs : List Value} (h : SumR w1 (fun b => w0.heap.size + 1 + 1 + 1 ≤ b) x cs) (u0 u1 u2 u3 y1 y2 : Value) : SumR ((((((w1.setCell ⟨w0.heap.size, 0, none⟩ u0).setCell ⟨w0.heap.size, 1, none⟩ u1).setCell ⟨w0.heap.size, 2, none⟩ u2).setCell ⟨w0.heap.size, 3, none⟩ u3).setCell ⟨w0.heap.size + 1, 0, none⟩ y1).setCell ⟨w0.heap.size + 1 + 1, 0, none⟩ y2) (fun b => w0.heap.size + 1 + 1 + 1 ≤ b) x cs := by
  refine h.move (fun b hb hl => ?_) (fun b hb _ => hb)
  rw [Below.heap_setCell _ ⟨w0.heap.size + 1 + 1, 0, none⟩ _ b (by simp; omega), Below.heap_setCell _ ⟨w0.heap.size + 1, 0, none⟩ _ b (by simp; omega), Below.heap_setCell _ ⟨w0.heap.size, 3, none⟩ _ b (by simp; omega), Below.heap_setCell _ ⟨w0.heap.size, 2, none⟩ _ b (by simp; omega), Below.heap_setCell _ ⟨w0.heap.size, 1, none⟩ _ b (by simp; omega), Below.heap_setCell _ ⟨w0.heap.size, 0, none⟩ _ b (by simp; omega)]
set_option maxHeartbeats 8000000 in
set_option maxRecDepth 100000 in
theorem parse_long (s : ByteArray) (bash : Bool) (w : World) (h : 16384 < s.size) (hs : s.size ≤ 9223372036854775807) : Calls Tryd.prog 8 #[.string s, .bool bash] w fun e w' => ParseSay (zeroE, 0, 5) w e w' := by
  have HR0 := Lib.hid (r3_start w (.int .i64 0))
  obtain ⟨z0, z1, z2, z3, z4, z5, z6, z7, z8, z9, z10, z11⟩ := HR0.out.all
  go_enter_defers Tryd.func8, Tryd.ntmps8
  go_wp2_with fail
  have HR5 := Lib.hid (r3_start w (.int .i64 5))
  obtain ⟨z0, z1, z2, z3, z4, z5, z6, z7, z8, z9, z10, z11⟩ := HR5.out.all
  generalize (((w.alloc (.cells #[.string ⟨#[]⟩, .string ⟨#[]⟩, .int .i64 0, .slice none 0 0] 25)).alloc (.cells #[.int .i64 0] 3)).alloc (.cells #[.int .i64 5] 26)) = W5 at *
  simp only [bodyPostD, Leaves, settle, results, Tryd.results8]
  simp [go_sem, z0, z1, z2, z3, z8, z10]
  exact ⟨none, 0, rfl, SumR.leaf _ _ _ _ _, HR5.out.bel⟩
set_option maxHeartbeats 8000000 in
set_option maxRecDepth 100000 in
theorem parse_short (s : ByteArray) (bash : Bool) (w : World) (hT : Tab w) (h : s.size ≤ 16384) : Calls Tryd.prog 8 #[.string s, .bool bash] w fun e w' => ParseSay (parseTop (nextF s bash) litV s.size) w e w' := by
  obtain ⟨W0, hW0⟩ : ∃ W0, W0 = ((w.alloc (.cells #[.string ⟨#[]⟩, .string ⟨#[]⟩, .int .i64 0, .slice none 0 0] 25)).alloc (.cells #[.int .i64 0] 3)).alloc (.cells #[.int .i64 0] 26) := ⟨_, rfl⟩
  have HR0 := Lib.hid (r3_start w (.int .i64 0))
  rw [← hW0] at HR0
  have e0 : W0.heap.size = w.heap.size + 1 + 1 + 1 := by rw [hW0]; simp
  have hlim : decide ((16384 : Int) < (s.size : Int)) = false := decide_eq_false (by omega)
  have HW0 := Lib.hid hW0
  have HE0 := Lib.hid e0
  have HSZ := Lib.hid h
  have HT := Lib.hid hT
  clear hW0 e0 hT
  obtain ⟨nx, hnxe⟩ : ∃ nx, nx = nextF s bash := ⟨_, rfl⟩
  have HNX := Lib.hid (show Nx nx s.size by rw [hnxe]; exact next_nx s bash HSZ.out)
  have HNC := Lib.hid (fun pb => (show NextC nx pb s bash by rw [hnxe]; exact next_calls))
  rw [← hnxe]
  obtain ⟨r, hr⟩ : ∃ r, parseTop nx litV s.size = r := ⟨_, rfl⟩
  rw [hr]
  have HR := Lib.hid hr
  have hba := (Below.refl _ W0).alloc (Nat.le_refl _) (.cells #[.string s, .bool bash, .int .i64 0, .string ⟨#[]⟩, .int .i64 0, .int .i64 0, .int .i64 0] 46)
  have hpb : PB (W0.alloc (.cells #[.string s, .bool bash, .int .i64 0, .string ⟨#[]⟩, .int .i64 0, .int .i64 0, .int .i64 0] 46)) (w.heap.size + 1 + 1 + 1) s bash ⟨0, em, 0, 0⟩ 0 :=
    ⟨by have h1 := Bk.new W0 46 #[.string s, .bool bash, .int .i64 0, .string ⟨#[]⟩, .int .i64 0, .int .i64 0, .int .i64 0]; rw [HE0.out] at h1; exact h1, (HT.out.below HR0.out.bel).below hba, Nat.zero_le _, HSZ.out, Nat.zero_le _, Nat.zero_le _⟩
  have HPB := Lib.hid hpb
  have HR1 := Lib.hid (HR0.out.next hba)
  clear hnxe hr hba hpb
  go_enter_defers Tryd.func8, Tryd.ntmps8
  go_wp2_with fail
  rw [← HW0.out]
  generalize W0.alloc (.cells #[.string s, .bool bash, .int .i64 0, .string ⟨#[]⟩, .int .i64 0, .int .i64 0, .int .i64 0] 46) = W1 at *
  refine (goOn_calls HNX.out (HNC.out _) W1 HPB.out).mono ?_
  rintro e w2 ⟨rfl, hg2, hp2⟩
  have HR2 := Lib.hid (HR1.out.grown hg2 (Nat.lt_succ_self _))
  have HP2 := Lib.hid hp2
  have y2 := hp2.c2
  clear hg2 hp2
  have hr := HR.out
  unfold parseTop at hr
  obtain ⟨t0, ht0⟩ : ∃ t0, nx 0 = t0 := ⟨_, rfl⟩
  rw [ht0] at hr
  replace HP2 := Lib.hid (show PB w2 (w.heap.size + 1 + 1 + 1) s bash t0 0 from ht0 ▸ HP2.out)
  rw [show nx (Tok.to_ ⟨0, em, 0, 0⟩) = t0 from ht0] at y2
  have hps := parse_some (lit := litV) HNX.out
  rw [ht0] at hps
  have HPS := Lib.hid hps
  clear hps ht0
  by_cases hk : t0.kind = 0
  · rw [if_pos hk] at hr
    have hkb : ((t0.kind : Int) == 0) = true := by rw [hk]; rfl
    have HRR := Lib.hid hr
    obtain ⟨z0, z1, z2, z3, z4, z5, z6, z7, z8, z9, z10, z11⟩ := HR2.out.all
    have HR3 := Lib.hid (HR2.out.setN (.string ⟨#[]⟩) (.string ⟨#[]⟩) (.int .i64 0) (.slice none 0 0) (.int .i64 s.size) (.int .i64 0))
    clear hk hr
    go_wp2_with fail
    clear z0 z1 z2 z3 z4 z5 z6 z7 z8 z9 z10 z11
    refine leaves_cons (f := 18) (args := #[.pointer (some ⟨w.heap.size, 0, none⟩), .pointer (some ⟨w.heap.size + 1, 0, none⟩), .pointer (some ⟨w.heap.size + 1 + 1, 0, none⟩)]) (by simp) (by simp [go_sem]) ?_
    refine (catch_none _ _ _ _).mono ?_
    rintro e u' w9 ⟨rfl, rfl, rfl⟩
    have HR9 := Lib.hid (HR3.out.next ((Below.refl _ _).alloc (Nat.le_refl _) (.cells #[.int .i64 0, .int .i64 0] 40)))
    obtain ⟨z0, z1, z2, z3, z4, z5, z6, z7, z8, z9, z10, z11⟩ := HR9.out.all
    simp only [Leaves, settle, results, Tryd.results8]
    simp [go_sem, z0, z1, z2, z3, z8, z10]
    rw [← HRR.out]
    exact ⟨none, 0, rfl, SumR.leaf _ _ _ _ _, HR9.out.bel⟩
  · rw [if_neg hk] at hr
    have hkb : ((t0.kind : Int) == 0) = false := beq_eq_false_iff_ne.2 (by omega)
    have HCL := Lib.hid (show Calls Tryd.prog 20 #[parserV (w.heap.size + 1 + 1 + 1)] w2 (Tells (w.heap.size + 1 + 1 + 1) s bash 0 w2 (parse nx litV (20 * s.size + 100) .comma 0 t0)) from
      parse_calls HNX.out (HNC.out _) in_calls lit_calls litv_bounds (20 * s.size + 100) .comma trivial 0 t0 w2 HP2.out HPS.out)
    obtain ⟨q, hq⟩ : ∃ q, parse nx litV (20 * s.size + 100) .comma 0 t0 = q := ⟨_, rfl⟩
    rw [hq] at HCL hr
    clear hk hq
    go_wp2_with fail
    refine HCL.out.mono ?_
    intro e w3 hs
    rcases Tells.or hs with ⟨a, c, rfl, rfl, hg3⟩ | ⟨x, t3, A, c, rfl, rfl, hS3, hp3, hg3⟩
    · have HR3 := Lib.hid (HR2.out.grown hg3 (Nat.lt_succ_self _))
      have HRR := Lib.hid (show r = (zeroE, a, c) from hr.symm)
      clear hg3 hs hr
      go_wp2_with fail
      refine leaves_cons (f := 18) (args := #[.pointer (some ⟨w.heap.size, 0, none⟩), .pointer (some ⟨w.heap.size + 1, 0, none⟩), .pointer (some ⟨w.heap.size + 1 + 1, 0, none⟩)]) (by simp) (by simp [go_sem]) ?_
      refine (catch_fault a c _ _ _ _ _ _ [] w _ HR3.out).mono ?_
      rintro e u' w9 ⟨rfl, rfl, hr9⟩
      have HR9 := Lib.hid hr9
      obtain ⟨z0, z1, z2, z3, z4, z5, z6, z7, z8, z9, z10, z11⟩ := hr9.all
      clear hr9
      simp [Leaves, settle, results, Tryd.results8, go_sem, z0, z1, z2, z3, z8, z10]
      rw [HRR.out]
      exact ⟨none, 0, rfl, SumR.leaf _ _ _ _ _, HR9.out.bel⟩
    · have HR3 := Lib.hid (HR2.out.grown hg3 (Nat.lt_succ_self _))
      have HB2 := Lib.hid HR2.out.b2.lt
      have HS3 := Lib.hid hS3
      have HP3 := Lib.hid hp3
      have HG3 := Lib.hid hg3
      have HRR := Lib.hid (show (if t3.kind ≠ 0 then (zeroE, t3.pos, 33) else if 60 < deepF 1000 x then (zeroE, s.size, 42) else (x, s.size, 0)) = r from hr)
      clear hS3 hp3 hg3 hs hr
      obtain ⟨z0, z1, z2, z3, z4, z5, z6, z7, z8, z9, z10, z11⟩ := HR3.out.all
      have hgx := grown_box4 (w := w3) (b := w.heap.size) (.string x.op) (.string x.name) (.int .i64 x.num) (.slice A x.kids.length c)
      have HR4 := Lib.hid (HR3.out.setX (.string x.op) (.string x.name) (.int .i64 x.num) (.slice A x.kids.length c))
      have HP4 := Lib.hid (HP3.out.box HR3.out.b0 rfl (by omega) hgx)
      have HS4 := Lib.hid (HS3.out.move (w' := ((((w3.setCell ⟨w.heap.size, 0, none⟩ (.string x.op)).setCell ⟨w.heap.size, 1, none⟩ (.string x.name)).setCell ⟨w.heap.size, 2, none⟩ (.int .i64 x.num)).setCell ⟨w.heap.size, 3, none⟩ (.slice A x.kids.length c))) (ok' := fun b => w.heap.size + 1 + 1 + 1 ≤ b) (fun b hb hl => hgx.block b hl (fun e => by injection e with e; have h1 := HB2.out; have hb : w2.heap.size ≤ b := hb; omega)) (fun b hb _ => by have h1 := HB2.out; have hb : w2.heap.size ≤ b := hb; omega))
      have k2 := HP4.out.c2
      obtain ⟨x0, x1, x2, x3, x4, x5, x6, x7, x8, x9, x10, x11⟩ := HR4.out.all
      clear hgx y2
      by_cases hk3 : t3.kind = 0
      · have hrr := HRR.out
        rw [if_neg (by omega)] at hrr
        have hk3b : ((t3.kind : Int) != 0) = false := by rw [hk3]; rfl
        have HDC := Lib.hid (Deep_calls x A c ((((w3.setCell ⟨w.heap.size, 0, none⟩ (.string x.op)).setCell ⟨w.heap.size, 1, none⟩ (.string x.name)).setCell ⟨w.heap.size, 2, none⟩ (.int .i64 x.num)).setCell ⟨w.heap.size, 3, none⟩ (.slice A x.kids.length c)) _ HS4.out)
        by_cases hd : 60 < deepF 1000 x
        · rw [if_pos hd] at hrr
          have HRR2 := Lib.hid hrr
          have hdb : decide ((60 : Int) < (deepF 1000 x : Nat)) = true := decide_eq_true (by omega)
          have hdc : decide (60 < deepF 1000 x) = true := decide_eq_true hd
          generalize deepF 1000 x = dd at *
          clear hrr hk3 HRR
          go_wp2_with fail
          refine HDC.out.mono ?_
          rintro e w5 ⟨rfl, hb5⟩
          have HR5 := Lib.hid (HR4.out.next hb5)
          obtain ⟨p0, p1, p2, p3, p4, p5, p6, p7, p8, p9, p10, p11⟩ := HR5.out.all
          have HR6 := Lib.hid (HR5.out.setN (.string ⟨#[]⟩) (.string ⟨#[]⟩) (.int .i64 0) (.slice none 0 0) (.int .i64 s.size) (.int .i64 42))
          clear hb5 x0 x1 x2 x3 x4 x5 x6 x7 x8 x9 x10 x11 z0 z1 z2 z3 z4 z5 z6 z7 z8 z9 z10 z11
          go_wp2_with fail
          clear p0 p1 p2 p3 p4 p5 p6 p7 p8 p9 p10 p11
          refine leaves_cons (f := 18) (args := #[.pointer (some ⟨w.heap.size, 0, none⟩), .pointer (some ⟨w.heap.size + 1, 0, none⟩), .pointer (some ⟨w.heap.size + 1 + 1, 0, none⟩)]) (by simp) (by simp [go_sem]) ?_
          refine (catch_none _ _ _ _).mono ?_
          rintro e u' w9 ⟨rfl, rfl, rfl⟩
          have HR9 := Lib.hid (HR6.out.next ((Below.refl _ _).alloc (Nat.le_refl _) (.cells #[.int .i64 0, .int .i64 0] 40)))
          obtain ⟨z0, z1, z2, z3, z4, z5, z6, z7, z8, z9, z10, z11⟩ := HR9.out.all
          simp only [Leaves, settle, results, Tryd.results8]
          simp [go_sem, z0, z1, z2, z3, z8, z10]
          rw [← HRR2.out]
          exact ⟨none, 0, rfl, SumR.leaf _ _ _ _ _, HR9.out.bel⟩
        · rw [if_neg hd] at hrr
          have HRR2 := Lib.hid hrr
          have hdb : decide ((60 : Int) < (deepF 1000 x : Nat)) = false := decide_eq_false (by omega)
          have hdc : decide (60 < deepF 1000 x) = false := decide_eq_false hd
          generalize deepF 1000 x = dd at *
          clear hrr hk3 HRR
          go_wp2_with fail
          refine HDC.out.mono ?_
          rintro e w5 ⟨rfl, hb5⟩
          have HR5 := Lib.hid (HR4.out.next hb5)
          have HS5 := Lib.hid (HS4.out.bel hb5)
          obtain ⟨p0, p1, p2, p3, p4, p5, p6, p7, p8, p9, p10, p11⟩ := HR5.out.all
          have HR6 := Lib.hid (HR5.out.setN (.string x.op) (.string x.name) (.int .i64 x.num) (.slice A x.kids.length c) (.int .i64 s.size) (.int .i64 0))
          have HS6 := Lib.hid (set_keeps HS5.out (.string x.op) (.string x.name) (.int .i64 x.num) (.slice A x.kids.length c) (.int .i64 s.size) (.int .i64 0))
          clear hb5 x0 x1 x2 x3 x4 x5 x6 x7 x8 x9 x10 x11 z0 z1 z2 z3 z4 z5 z6 z7 z8 z9 z10 z11
          go_wp2_with fail
          clear p0 p1 p2 p3 p4 p5 p6 p7 p8 p9 p10 p11
          refine leaves_cons (f := 18) (args := #[.pointer (some ⟨w.heap.size, 0, none⟩), .pointer (some ⟨w.heap.size + 1, 0, none⟩), .pointer (some ⟨w.heap.size + 1 + 1, 0, none⟩)]) (by simp) (by simp [go_sem]) ?_
          refine (catch_none _ _ _ _).mono ?_
          rintro e u' w9 ⟨rfl, rfl, rfl⟩
          have HR9 := Lib.hid (HR6.out.next ((Below.refl _ _).alloc (Nat.le_refl _) (.cells #[.int .i64 0, .int .i64 0] 40)))
          obtain ⟨z0, z1, z2, z3, z4, z5, z6, z7, z8, z9, z10, z11⟩ := HR9.out.all
          simp only [Leaves, settle, results, Tryd.results8]
          simp [go_sem, z0, z1, z2, z3, z8, z10]
          rw [← HRR2.out]
          exact ⟨A, c, rfl, (HS6.out.bel ((Below.refl _ _).alloc (Nat.le_refl _) _)).least (by omega), HR9.out.bel⟩
      · have hrr := HRR.out
        rw [if_pos hk3] at hrr
        have HRR2 := Lib.hid (show r = (zeroE, t3.pos, 33) from hrr.symm)
        have hk3b : ((t3.kind : Int) != 0) = true := bne_iff_ne.2 (by omega)
        have HFL := Lib.hid (fail_calls 33 _ HP4.out)
        clear hrr hk3 HRR
        go_wp2_with fail
        refine HFL.out.mono ?_
        rintro e w5 ⟨rfl, hb5⟩
        have HR5 := Lib.hid (HR4.out.next hb5)
        clear hb5 x0 x1 x2 x3 x4 x5 x6 x7 x8 x9 x10 x11 z0 z1 z2 z3 z4 z5 z6 z7 z8 z9 z10 z11
        go_wp2_with fail
        refine leaves_cons (f := 18) (args := #[.pointer (some ⟨w.heap.size, 0, none⟩), .pointer (some ⟨w.heap.size + 1, 0, none⟩), .pointer (some ⟨w.heap.size + 1 + 1, 0, none⟩)]) (by simp) (by simp [go_sem]) ?_
        refine (catch_fault t3.pos 33 _ _ _ _ _ _ [] w _ HR5.out).mono ?_
        rintro e u' w9 ⟨rfl, rfl, hr9⟩
        have HR9 := Lib.hid hr9
        obtain ⟨z0, z1, z2, z3, z4, z5, z6, z7, z8, z9, z10, z11⟩ := hr9.all
        clear hr9
        simp [Leaves, settle, results, Tryd.results8, go_sem, z0, z1, z2, z3, z8, z10]
        rw [HRR2.out]
        exact ⟨none, 0, rfl, SumR.leaf _ _ _ _ _, HR9.out.bel⟩
theorem Parse_calls (s : ByteArray) (bash : Bool) (w : World) (hT : Tab w) (hs : s.size ≤ 9223372036854775807) : Calls Tryd.prog 8 #[.string s, .bool bash] w fun e w' => ParseSay (parseS s bash) w e w' := by
  unfold parseS
  split
  · rename_i h
    exact parse_long s bash w h hs
  · rename_i h
    exact parse_short s bash w hT (by omega)
end Go.Proofs.YtlbgnpllbogkeaaDoor.Ext
end

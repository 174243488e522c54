/- Proved: arith's parser: the calls of want and deeper (whatever function is handed in). -/
import Derived.Test.YtlbgnpllbogkeaaDoorVkArCore
set_option linter.unusedVariables false
set_option linter.unusedSimpArgs false
namespace Go.Proofs.YtlbgnpllbogkeaaDoor.Ext
open Go.RowKit Go.Proofs.YtlbgnpllbogkeaaDoorW.PrintWords
/-- What a reading tells. -/
def Tells (pb : Nat) (s : ByteArray) (bash : Bool) (d : Nat) (w : World) (r : Rs) (e : Ending) (w' : World) : Prop := match r with
  | .out => False
  | .fault a c => e = .panicked [{ v := faultV a c, recovered := false }] ∧ w.grownBy w' (some pb)
  | .ok x t => ∃ A c, e = .returned (.agg #[.string x.op, .string x.name, .int .i64 x.num, .slice A x.kids.length c]) ∧ SumR w' (w.heap.size ≤ ·) x [.string x.op, .string x.name, .int .i64 x.num, .slice A x.kids.length c] ∧ PB w' pb s bash t d ∧ w.grownBy w' (some pb)
/-- A variable of an expression: its block. -/
def Bx (w : World) (b : Nat) (cs : Array Value) : Prop := w.heap[b]? = some (.cells cs 25 (0, 0))
theorem Bx.c {w : World} {b : Nat} {cs : Array Value} (h : Bx w b cs) (i : Nat) : w.cell? ⟨b, i, none⟩ = cs[i]? := blk_cell h i
theorem Bx.f {w : World} {b : Nat} {cs : Array Value} (h : Bx w b cs) (i : Nat) : w.frozen? ⟨b, i, none⟩ = false := blk_frozen h i
theorem Bx.lt {w : World} {b : Nat} {cs : Array Value} (h : Bx w b cs) : b < w.heap.size := blk_lt h
theorem Bx.bel {w w' : World} {b : Nat} {cs : Array Value} (h : Bx w b cs) (hb : Below w.heap.size w w') : Bx w' b cs := (hb.block _ h.lt).trans h
theorem Bx.grown {w w' : World} {b pb : Nat} {cs : Array Value} (h : Bx w b cs) (hg : w.grownBy w' (some pb)) (hne : b ≠ pb) : Bx w' b cs := (hg.block _ h.lt (fun e => hne (Option.some.inj e))).trans h
theorem Bx.new (w : World) (cs : Array Value) : Bx (w.alloc (.cells cs 25)) w.heap.size cs := heap_alloc_new w _
theorem Bx.set4 {w : World} {b : Nat} {c0 c1 c2 c3 : Value} (h : Bx w b #[c0, c1, c2, c3]) (u0 u1 u2 u3 : Value) : Bx ((((w.setCell ⟨b, 0, none⟩ u0).setCell ⟨b, 1, none⟩ u1).setCell ⟨b, 2, none⟩ u2).setCell ⟨b, 3, none⟩ u3) b #[u0, u1, u2, u3] :=
  heap_setCell_same _ _ 3 _ _ _ (heap_setCell_same _ _ 2 _ _ _ (heap_setCell_same _ _ 1 _ _ _ (heap_setCell_same _ _ 0 _ _ _ h)))
theorem PB.setD {w : World} {pb : Nat} {s : ByteArray} {bash : Bool} {t : Tok} {d : Nat} (h : PB w pb s bash t d) (d' : Nat) (hd : d' ≤ 60) : PB (w.setCell ⟨pb, 6, none⟩ (.int .i64 d')) pb s bash t d' :=
  h.put (grown_set 6 _) hd h.tle h.txt (heap_setCell_same _ _ 6 _ _ _ h.blk)
theorem grown_box4 {w : World} {b : Nat} (u0 u1 u2 u3 : Value) : w.grownBy ((((w.setCell ⟨b, 0, none⟩ u0).setCell ⟨b, 1, none⟩ u1).setCell ⟨b, 2, none⟩ u2).setCell ⟨b, 3, none⟩ u3) (some b) :=
  grown_trans (grown_trans (grown_trans (grown_set 0 _) (grown_set 1 _)) (grown_set 2 _)) (grown_set 3 _)
theorem SumR.far {w w' : World} {n pb : Nat} {x : E} {cs : List Value} (h : SumR w (n ≤ ·) x cs) (hg : w.grownBy w' (some pb)) (hp : pb < n) : SumR w' (n ≤ ·) x cs :=
  h.move (fun b hb hl => hg.block b hl (fun e => by injection e with e; omega)) (fun _ h _ => h)
theorem SumR.least {w : World} {n m : Nat} {x : E} {cs : List Value} (h : SumR w (n ≤ ·) x cs) (hm : m ≤ n) : SumR w (m ≤ ·) x cs := h.mono (fun b hb _ => Nat.le_trans hm hb)
/-- The end of a reading: behind all calls only the result's block was written. -/
theorem tells_fin {pb : Nat} {s : ByteArray} {bash : Bool} {t t0 : Tok} {d d0 : Nat} {w w2 w3 : World} {x : E} {A : Option Addr} {c rb : Nat} (hrb : w.heap.size ≤ rb) (h0 : PB w pb s bash t0 d0) (hg : w.grownBy w2 (some pb))
    (hS : SumR w2 (rb + 1 ≤ ·) x [.string x.op, .string x.name, .int .i64 x.num, .slice A x.kids.length c]) (hp : PB w2 pb s bash t d) (h3 : w2.grownBy w3 (some rb)) : Tells pb s bash d w (.ok x t) (.returned (.agg #[.string x.op, .string x.name, .int .i64 x.num, .slice A x.kids.length c])) w3 := by
  have hpb := h0.lt
  have hg3 : w.grownBy w3 (some pb) := ⟨h3.os.trans hg.os, h3.tape.trans hg.tape, h3.output.trans hg.output, Nat.le_trans hg.size h3.size, fun k hk hr => (h3.block k (Nat.lt_of_lt_of_le hk hg.size) (fun e => by injection e with e; omega)).trans (hg.block k hk hr)⟩
  have hb3 := h3.block pb hp.lt (fun e => by injection e with e; omega)
  refine ⟨A, c, rfl, (hS.far h3 (Nat.lt_succ_self _)).least (Nat.le_succ_of_le hrb), ?_, hg3⟩
  exact ⟨hb3.trans hp.blk, Tab.grown h0 hg3, hp.d60, hp.sz, hp.tle, hp.txt⟩
/-- What a closure's reading tells: the expression may hold what was there before (I). -/
def TellsI (I : Nat → Prop) (pb : Nat) (s : ByteArray) (bash : Bool) (d : Nat) (w : World) (r : Rs) (e : Ending) (w' : World) : Prop := match r with
  | .out => False
  | .fault a c => e = .panicked [{ v := faultV a c, recovered := false }] ∧ w.grownBy w' (some pb)
  | .ok x t => ∃ A c, e = .returned (.agg #[.string x.op, .string x.name, .int .i64 x.num, .slice A x.kids.length c]) ∧ SumR w' (fun b => I b ∨ w.heap.size ≤ b) x [.string x.op, .string x.name, .int .i64 x.num, .slice A x.kids.length c] ∧ PB w' pb s bash t d ∧ w.grownBy w' (some pb)
theorem TellsI.none {pb : Nat} {s : ByteArray} {bash : Bool} {d : Nat} {w : World} {r : Rs} {e : Ending} {w' : World} (h : TellsI (fun _ => False) pb s bash d w r e w') : Tells pb s bash d w r e w' := by
  cases r with
  | out => exact h
  | fault a c => exact h
  | ok x t => obtain ⟨A, c, h1, h2, h3, h4⟩ := h; exact ⟨A, c, h1, h2.mono (fun b hb _ => hb.elim (fun h => h.elim) (fun h => h)), h3, h4⟩
theorem Tells.toI {I : Nat → Prop} {pb : Nat} {s : ByteArray} {bash : Bool} {d : Nat} {w : World} {r : Rs} {e : Ending} {w' : World} (h : Tells pb s bash d w r e w') : TellsI I pb s bash d w r e w' := by
  cases r with
  | out => exact h
  | fault a c => exact h
  | ok x t => obtain ⟨A, c, h1, h2, h3, h4⟩ := h; exact ⟨A, c, h1, h2.mono (fun b hb _ => .inr hb), h3, h4⟩
theorem tells_finI {I : Nat → Prop} {pb : Nat} {s : ByteArray} {bash : Bool} {t t0 : Tok} {d d0 : Nat} {w w2 w3 : World} {x : E} {A : Option Addr} {c rb : Nat} (hI : ∀ b, I b → b < w.heap.size ∧ b ≠ pb) (hrb : w.heap.size ≤ rb) (h0 : PB w pb s bash t0 d0) (hg : w.grownBy w2 (some pb))
    (hS : SumR w2 (fun b => I b ∨ rb + 1 ≤ b) x [.string x.op, .string x.name, .int .i64 x.num, .slice A x.kids.length c]) (hp : PB w2 pb s bash t d) (h3 : w2.grownBy w3 (some rb)) : TellsI I pb s bash d w (.ok x t) (.returned (.agg #[.string x.op, .string x.name, .int .i64 x.num, .slice A x.kids.length c])) w3 := by
  have hpb := h0.lt
  have hg3 : w.grownBy w3 (some pb) := ⟨h3.os.trans hg.os, h3.tape.trans hg.tape, h3.output.trans hg.output, Nat.le_trans hg.size h3.size, fun k hk hr => (h3.block k (Nat.lt_of_lt_of_le hk hg.size) (fun e => by injection e with e; omega)).trans (hg.block k hk hr)⟩
  have hb3 := h3.block pb hp.lt (fun e => by injection e with e; omega)
  refine ⟨A, c, rfl, hS.move (fun b hb hl => h3.block b hl (fun e => ?_)) (fun b hb _ => ?_), ?_, hg3⟩
  · injection e with e
    rcases hb with hb | hb
    · have := (hI b hb).1
      omega
    · omega
  · rcases hb with hb | hb
    · exact .inl hb
    · exact .inr (by omega)
  · exact ⟨hb3.trans hp.blk, Tab.grown h0 hg3, hp.d60, hp.sz, hp.tle, hp.txt⟩
section
variable {nx : Nat → Tok} {pb : Nat} {s : ByteArray} {bash : Bool} {t : Tok} {d : Nat}
/-- What want tells. -/
def WantSay (nx : Nat → Tok) (pb : Nat) (s : ByteArray) (bash : Bool) (d : Nat) (t : Tok) (w : World) (r : Option (ByteArray × Tok)) (e : Ending) (w' : World) : Prop := match r with
  | none => e = .panicked [{ v := faultV t.pos 33, recovered := false }] ∧ w.grownBy w' (some pb)
  | some (_, t1) => e = .returned (.tuple #[]) ∧ w.grownBy w' (some pb) ∧ PB w' pb s bash t1 d
set_option maxHeartbeats 1000000 in
theorem want_calls (hx : Nx nx s.size) (hn : NextC nx pb s bash) (hi : InC) (set : ByteArray) (hs : SetOf set [set]) (w : World) (h : PB w pb s bash t d) :
    Calls Tryd.prog 77 #[parserV pb, .string set] w fun e w' => WantSay nx pb s bash d t w (tookF nx [set] t) e w' := by
  have HT := Lib.hid (took_calls hx hn hi set [set] hs w h)
  have HP := Lib.hid h
  clear h hn hi hs hx
  cases hr : tookF nx [set] t with
  | none =>
    rw [hr] at HT
    clear hr
    go_enter Tryd.func77, Tryd.ntmps77
    go_wp2_with fail
    refine HT.out.mono ?_
    rintro e w1 ⟨rfl, hg, hp⟩
    have HG := Lib.hid hg
    have HF := Lib.hid (fail_calls 33 w1 hp)
    clear hg hp
    go_wp2_with fail
    refine HF.out.mono ?_
    rintro e w2 ⟨rfl, hb⟩
    have HB := Lib.hid hb
    clear hb
    go_wp2_with fail
    exact ⟨rfl, rfl, grown_trans HG.out (grown_of_below HB.out _)⟩
  | some p =>
    obtain ⟨op, t1⟩ := p
    rw [hr] at HT
    clear hr
    go_enter Tryd.func77, Tryd.ntmps77
    go_wp2_with fail
    refine HT.out.mono ?_
    rintro e w1 ⟨rfl, hg, hp⟩
    have HG := Lib.hid hg
    have HP1 := Lib.hid hp
    clear hg hp
    go_wp2_with fail
    refine bodyPost_end (results_none rfl _ _ _) rfl ?_
    exact ⟨rfl, HG.out, HP1.out⟩
set_option maxHeartbeats 2000000 in
theorem deeper_calls (w : World) (I : Nat → Prop) (hI : ∀ b, I b → b < w.heap.size ∧ b ≠ pb) (gN : Nat) (lb : Array Value) (f : Nat → Rs) (h : PB w pb s bash t d) (eg : ∀ args w, (callFunc gN args).run Tryd.prog w = .ok (.enter gN args) w)
    (hf : ∀ w1, PB w1 pb s bash t (d + 1) → w.grownBy w1 (some pb) → Calls Tryd.prog gN lb w1 (TellsI I pb s bash (d + 1) w1 (f (d + 1)))) :
    Calls Tryd.prog 56 #[parserV pb, .func (.func gN) #[] lb] w (TellsI I pb s bash d w (deeperF d t f)) := by
  have hp0 := h.bel ((Below.refl _ w).alloc (Nat.le_refl _) (.cells #[.string ⟨#[]⟩, .string ⟨#[]⟩, .int .i64 0, .slice none 0 0] 25))
  have h6 := hp0.c6
  have hfz := hp0.fr 6
  have HP0 := Lib.hid hp0
  clear hp0
  have HP := Lib.hid h
  have HF := Lib.hid hf
  have HII := Lib.hid hI
  have hd := h.d60
  clear h hf hI
  unfold deeperF
  by_cases h60 : d = 60
  · rw [if_pos h60]
    subst h60
    have HFL := Lib.hid (fun W hp => fail_calls (t := t) (d := 60) (pb := pb) (s := s) (bash := bash) 42 W hp)
    clear hd
    go_enter Tryd.func56, Tryd.ntmps56
    go_wp2_with fail
    refine (HFL.out _ (HP.out.bel ((Below.refl _ w).alloc (Nat.le_refl _) (.cells #[.string ⟨#[]⟩, .string ⟨#[]⟩, .int .i64 0, .slice none 0 0] 25)))).mono ?_
    rintro e w2 ⟨rfl, hb⟩
    have HB := Lib.hid hb
    clear hb
    go_wp2_with fail
    exact ⟨rfl, rfl, grown_trans (grown_of_below ((Below.refl _ w).alloc (Nat.le_refl _) (.cells #[.string ⟨#[]⟩, .string ⟨#[]⟩, .int .i64 0, .slice none 0 0] 25)) _) (grown_of_below HB.out _)⟩
  · rw [if_neg h60]
    have hdi : ((d : Int) == 60) = false := beq_eq_false_iff_ne.2 (by omega)
    have hd1 : d + 1 ≤ 60 := by omega
    obtain ⟨d1, hde⟩ : ∃ d1, d + 1 = d1 := ⟨_, rfl⟩
    have hw1 : wrap64 ((d : Int) + 1) = (d1 : Int) := by unfold wrap64; omega
    have hw2 : wrap64 ((d1 : Int) - 1) = (d : Int) := by unfold wrap64; omega
    rw [hde] at hd1 HF ⊢
    obtain ⟨r, hr⟩ : ∃ r, f d1 = r := ⟨_, rfl⟩
    rw [hr] at HF ⊢
    clear hr
    have HD := Lib.hid hd1
    have HD0 := Lib.hid hd
    clear hd h60 hd1 hde
    go_enter Tryd.func56, Tryd.ntmps56
    go_wp2_with fail
    have hp1 := HP0.out.setD d1 HD.out
    refine (HF.out _ hp1 (grown_trans (grown_of_below ((Below.refl _ w).alloc (Nat.le_refl _) _) _) (grown_set 6 _))).mono ?_
    rintro e w1 hs
    have HG0 := Lib.hid (grown_trans (grown_of_below ((Below.refl _ w).alloc (Nat.le_refl _) (.cells #[.string ⟨#[]⟩, .string ⟨#[]⟩, .int .i64 0, .slice none 0 0] 25)) (some pb)) (grown_set 6 (.int .i64 (d1 : Nat))))
    have hbx := (Bx.new w #[.string ⟨#[]⟩, .string ⟨#[]⟩, .int .i64 0, .slice none 0 0]).grown (grown_set 6 (.int .i64 (d1 : Nat))) (Ne.symm (Nat.ne_of_lt HP.out.lt))
    have HBX := Lib.hid hbx
    clear h6 hfz hp1 hbx
    clear HF
    cases r with
    | out => exact hs.elim
    | fault a c =>
      obtain ⟨rfl, hg⟩ := hs
      have HG := Lib.hid hg
      clear hg
      go_wp2_with fail
      exact ⟨rfl, rfl, grown_trans HG0.out HG.out⟩
    | ok x t1 =>
      obtain ⟨A, c, rfl, hS, hp2, hg2⟩ := hs
      have hne : w.heap.size ≠ pb := Ne.symm (Nat.ne_of_lt HP.out.lt)
      have hb2 := HBX.out.grown hg2 hne
      have ha := (Below.refl _ w1).alloc (Nat.le_refl _) (.cells #[.string x.op, .string x.name, .int .i64 x.num, .slice A x.kids.length c] 25)
      have hp3 := hp2.bel ha
      have hb3 := hb2.bel ha
      have hn3 := Bx.new w1 #[.string x.op, .string x.name, .int .i64 x.num, .slice A x.kids.length c]
      have y6 := hp3.c6
      have yf := hp3.fr 6
      have hp4 := hp3.setD d HD0.out
      have hb4 := hb3.grown (grown_set 6 (.int .i64 (d : Nat))) hne
      have hn4 := hn3.grown (grown_set 6 (.int .i64 (d : Nat))) (Ne.symm (Nat.ne_of_lt hp2.lt))
      have z0 := hb4.c 0
      have z1 := hb4.c 1
      have z2 := hb4.c 2
      have z3 := hb4.c 3
      have zf := hb4.f
      have v0 := hn4.c 0
      have v1 := hn4.c 1
      have v2 := hn4.c 2
      have v3 := hn4.c 3
      have HG2 := Lib.hid hg2
      have HS := Lib.hid hS
      have HP4 := Lib.hid hp4
      have HB4 := Lib.hid hb4
      clear hp3 hb3 hn3 hp4 hb4 hn4 hb2 hp2 hS hg2 ha
      go_wp2_with fail
      refine bodyPost_ret (results_cell_row rfl _ _ w.heap.size 25 #[.string x.op, .string x.name, .int .i64 x.num, .slice A x.kids.length c] (0, 0) _ rfl (HB4.out.set4 _ _ _ _) Tryd.underlying25 rfl (by kernel_rfl)) rfl ?_
      have hg4 := grown_trans (grown_of_below ((Below.refl _ w1).alloc (Nat.le_refl _) (.cells #[.string x.op, .string x.name, .int .i64 x.num, .slice A x.kids.length c] 25)) (some pb)) (grown_set 6 (.int .i64 (d : Nat)))
      have hs0 : (((w.alloc (.cells #[.string ⟨#[]⟩, .string ⟨#[]⟩, .int .i64 0, .slice none 0 0] 25)).setCell ⟨pb, 6, none⟩ (.int .i64 (d1 : Nat))).heap.size) = w.heap.size + 1 := by simp [World.setCell]
      have hS4 := HS.out.move (w' := (w1.alloc (.cells #[.string x.op, .string x.name, .int .i64 x.num, .slice A x.kids.length c] 25)).setCell ⟨pb, 6, none⟩ (.int .i64 (d : Nat))) (ok' := fun b => I b ∨ w.heap.size + 1 ≤ b) (fun b hb hl => hg4.block b hl (fun e => by
        injection e with e
        rcases hb with hb | hb
        · exact (HII.out b hb).2 e
        · rw [hs0] at hb
          have := HP.out.lt
          omega)) (fun b hb _ => by rw [hs0] at hb; exact hb)
      exact tells_finI HII.out (Nat.le_refl _) HP.out (grown_trans (grown_trans HG0.out HG2.out) hg4) hS4 HP4.out (grown_box4 _ _ _ _)
end
end Go.Proofs.YtlbgnpllbogkeaaDoor.Ext

/- Proved: arith's parser: power's call by what is within it; its closure's. -/
import Derived.Test.YtlbgnpllbogkeaaDoorVkArW1
set_option linter.unusedVariables false
set_option linter.unusedSimpArgs false
namespace Go.Proofs.YtlbgnpllbogkeaaDoor.Ext
open Go.RowKit Go.Proofs.YtlbgnpllbogkeaaDoorW.PrintWords
theorem TellsI.faultr {I : Nat → Prop} {pb : Nat} {s : ByteArray} {bash : Bool} {d : Nat} {w w' : World} {r0 r : Rs} {f : E → Tok → Rs} {a c : Nat} (h : r0 = .fault a c) (hr : r0.bind f = r) (hg : w.grownBy w' (some pb)) : TellsI I pb s bash d w r (.panicked [{ v := faultV a c, recovered := false }]) w' := by
  subst h
  subst hr
  exact ⟨rfl, hg⟩
abbrev twoC (x y : E) (A A3 : Option Addr) (c c3 : Nat) : Obj := .cells #[.string x.op, .string x.name, .int .i64 x.num, .slice A x.kids.length c, .string y.op, .string y.name, .int .i64 y.num, .slice A3 y.kids.length c3] 25
section
variable {w w0 w3 w5 : World} {pb : Nat} {s : ByteArray} {bash : Bool} {t t0 t2 : Tok} {d d0 : Nat} {x y : E} {A A3 : Option Addr} {c c3 : Nat} {I : Nat → Prop}
/-- The end of a closure that puts two together. -/
theorem two_fin {w9 : World} (op : ByteArray) (hI : ∀ b, I b → b < w.heap.size ∧ b ≠ pb) (h0 : PB w pb s bash t0 d0) (hx : SumR w I x [.string x.op, .string x.name, .int .i64 x.num, .slice A x.kids.length c]) (hg0 : w.grownBy w0 (some pb)) (hlt : w.heap.size + 1 ≤ w0.heap.size) (hg3 : w0.grownBy w3 (some pb))
    (hS3 : SumR w3 (w0.heap.size ≤ ·) y [.string y.op, .string y.name, .int .i64 y.num, .slice A3 y.kids.length c3]) (hp3 : PB w3 pb s bash t2 d) (hb5 : Below (w3.alloc (twoC x y A A3 c c3)).heap.size (w3.alloc (twoC x y A A3 c c3)) w5) (hg9 : w5.grownBy w9 (some w.heap.size)) :
    TellsI I pb s bash d w (.ok (bi op x y) t2) (.returned (.agg #[.string op, .string em, .int .i64 0, .slice (some ⟨w3.heap.size, 0, none⟩) 2 2])) w9 := by
  have hba := (Below.refl _ w3).alloc (Nat.le_refl _) (twoC x y A A3 c c3)
  have hlp := h0.lt
  have hs3 := hg3.size
  have hk5 : w5.heap[w3.heap.size]? = some (.cells #[.string x.op, .string x.name, .int .i64 x.num, .slice A x.kids.length c, .string y.op, .string y.name, .int .i64 y.num, .slice A3 y.kids.length c3] 25 (0, 0)) := (hb5.block _ (by simp)).trans (heap_alloc_new w3 _)
  have hx5 : SumR w5 (fun b => I b ∨ w.heap.size + 1 ≤ b) x [.string x.op, .string x.name, .int .i64 x.num, .slice A x.kids.length c] :=
    (((hx.move (fun b hb hl => (grown_trans hg0 hg3).block b hl (fun e => (hI b hb).2 (Option.some.inj e))) (fun b hb _ => hb)).bel hba).bel hb5).mono (fun b hb _ => .inl hb)
  have hy5 : SumR w5 (fun b => I b ∨ w.heap.size + 1 ≤ b) y [.string y.op, .string y.name, .int .i64 y.num, .slice A3 y.kids.length c3] :=
    ((hS3.bel hba).bel hb5).mono (fun b hb _ => .inr (Nat.le_trans hlt hb))
  exact tells_finI hI (Nat.le_refl _) h0 (grown_trans (grown_trans (grown_trans hg0 hg3) (grown_of_below hba _)) (grown_of_below hb5 _)) (two_made (w3 := w3) op hx5 hy5 hk5 (.inr (by omega))) ((hp3.bel hba).bel hb5) hg9
end
abbrev zeroO : Obj := .cells #[.string ⟨#[]⟩, .string ⟨#[]⟩, .int .i64 0, .slice none 0 0] 25
abbrev oneO (x : E) (A : Option Addr) (c : Nat) : Obj := .cells #[.string x.op, .string x.name, .int .i64 x.num, .slice A x.kids.length c] 25
/-- The boxes of a function with one closure: the parser's pointer, the result. -/
structure PAt (w : World) (pb : Nat) (s : ByteArray) (bash : Bool) (t : Tok) (d : Nat) (w0 : World) : Prop where
  p : PB w0 pb s bash t d
  g : w.grownBy w0 (some pb)
  bp : Bk w0 w.heap.size 42 #[parserV pb]
  br : Bx w0 (w.heap.size + 1) #[.string ⟨#[]⟩, .string ⟨#[]⟩, .int .i64 0, .slice none 0 0]
  n : w0.heap.size = w.heap.size + 1 + 1
theorem p_start {pb : Nat} {s : ByteArray} {bash : Bool} {t : Tok} {d : Nat} (w : World) (h : PB w pb s bash t d) : PAt w pb s bash t d ((w.alloc (.cells #[parserV pb] 42)).alloc zeroO) := by
  have h1 := (Below.refl _ w).alloc (Nat.le_refl _) (.cells #[parserV pb] 42)
  have h3 := (Below.refl _ (w.alloc (.cells #[parserV pb] 42))).alloc (Nat.le_refl _) zeroO
  have e1 : (w.alloc (.cells #[parserV pb] 42)).heap.size = w.heap.size + 1 := by simp
  have b3 := Bx.new (w.alloc (.cells #[parserV pb] 42)) #[.string ⟨#[]⟩, .string ⟨#[]⟩, .int .i64 0, .slice none 0 0]
  rw [e1] at b3
  exact ⟨(h.bel h1).bel h3, grown_trans (grown_of_below h1 _) (grown_of_below h3 _), (Bk.new w _ _).bel h3, b3, by simp⟩
/-- What lies behind the first reading: x in a variable xb. -/
structure XAt (w : World) (pb : Nat) (s : ByteArray) (bash : Bool) (t : Tok) (d : Nat) (xb : Nat) (x : E) (A : Option Addr) (c : Nat) (wr : World) : Prop where
  p : PB wr pb s bash t d
  g : w.grownBy wr (some pb)
  bp : Bk wr w.heap.size 42 #[parserV pb]
  br : Bx wr (w.heap.size + 1) #[.string ⟨#[]⟩, .string ⟨#[]⟩, .int .i64 0, .slice none 0 0]
  bx : Bx wr xb #[.string x.op, .string x.name, .int .i64 x.num, .slice A x.kids.length c]
  s : SumR wr (fun b => w.heap.size + 1 + 1 ≤ b ∧ b < xb) x [.string x.op, .string x.name, .int .i64 x.num, .slice A x.kids.length c]
  n : w.heap.size + 1 + 1 ≤ xb
theorem x_start {w w0 w1 : World} {pb : Nat} {s : ByteArray} {bash : Bool} {t t1 t0 : Tok} {d d0 : Nat} {x : E} {A : Option Addr} {c : Nat} (h0 : PB w pb s bash t0 d0) (h : PAt w pb s bash t d w0) (hS : SumR w1 (w0.heap.size ≤ ·) x [.string x.op, .string x.name, .int .i64 x.num, .slice A x.kids.length c]) (hp : PB w1 pb s bash t1 d) (hg : w0.grownBy w1 (some pb)) :
    XAt w pb s bash t1 d w1.heap.size x A c (w1.alloc (oneO x A c)) := by
  have hb := (Below.refl _ w1).alloc (Nat.le_refl _) (oneO x A c)
  have hlt := h0.lt
  have hn := h.n
  have hs := hg.size
  refine ⟨hp.bel hb, grown_trans (grown_trans h.g hg) (grown_of_below hb _), (h.bp.grown hg (by omega)).bel hb, (h.br.grown hg (by omega)).bel hb, Bx.new w1 _, ?_, by omega⟩
  exact (hS.mono (fun b hb hl => ⟨by have hb : w0.heap.size ≤ b := hb; omega, hl⟩)).bel hb
section
variable {w wr w1 : World} {pb : Nat} {s : ByteArray} {bash : Bool} {t t0 t1 : Tok} {d d0 xb : Nat} {x : E} {A : Option Addr} {c : Nat}
theorem XAt.bel (h : XAt w pb s bash t d xb x A c wr) (hb : Below wr.heap.size wr w1) : XAt w pb s bash t d xb x A c w1 :=
  ⟨h.p.bel hb, grown_trans h.g (grown_of_below hb _), h.bp.bel hb, h.br.bel hb, h.bx.bel hb, h.s.bel hb, h.n⟩
theorem XAt.grown (h0 : PB w pb s bash t0 d0) (h : XAt w pb s bash t d xb x A c wr) (hg : wr.grownBy w1 (some pb)) (hp : PB w1 pb s bash t1 d) : XAt w pb s bash t1 d xb x A c w1 := by
  have hlt := h0.lt
  have hn := h.n
  exact ⟨hp, grown_trans h.g hg, h.bp.grown hg (by omega), h.br.grown hg (by omega), h.bx.grown hg (by omega), h.s.move (fun b hb hl => hg.block b hl (fun e => by injection e with e; omega)) (fun b hb _ => hb), h.n⟩
/-- x is told as it is. -/
theorem XAt.tell (h0 : PB w pb s bash t0 d0) (h : XAt w pb s bash t d xb x A c wr) : Tells pb s bash d w (.ok x t) (.returned (.agg #[.string x.op, .string x.name, .int .i64 x.num, .slice A x.kids.length c])) ((((wr.setCell ⟨w.heap.size + 1, 0, none⟩ (.string x.op)).setCell ⟨w.heap.size + 1, 1, none⟩ (.string x.name)).setCell ⟨w.heap.size + 1, 2, none⟩ (.int .i64 x.num)).setCell ⟨w.heap.size + 1, 3, none⟩ (.slice A x.kids.length c)) :=
  tells_fin (Nat.le_succ _) h0 h.g (h.s.mono (fun b hb _ => hb.1)) h.p (grown_box4 _ _ _ _)
/-- What deeper tells is told. -/
theorem XAt.tellI {y : E} {A3 : Option Addr} {c3 : Nat} (h0 : PB w pb s bash t0 d0) (h : XAt w pb s bash t d xb x A c wr) (hS : SumR w1 (fun b => (w.heap.size + 1 + 1 ≤ b ∧ b < xb) ∨ wr.heap.size ≤ b) y [.string y.op, .string y.name, .int .i64 y.num, .slice A3 y.kids.length c3]) (hp : PB w1 pb s bash t1 d) (hg : wr.grownBy w1 (some pb)) :
    Tells pb s bash d w (.ok y t1) (.returned (.agg #[.string y.op, .string y.name, .int .i64 y.num, .slice A3 y.kids.length c3])) ((((w1.setCell ⟨w.heap.size + 1, 0, none⟩ (.string y.op)).setCell ⟨w.heap.size + 1, 1, none⟩ (.string y.name)).setCell ⟨w.heap.size + 1, 2, none⟩ (.int .i64 y.num)).setCell ⟨w.heap.size + 1, 3, none⟩ (.slice A3 y.kids.length c3)) := by
  have h1 := h.bx.lt
  have h2 := h.n
  exact tells_fin (Nat.le_succ _) h0 (grown_trans h.g hg) (hS.mono (fun b hb _ => by rcases hb with hb | hb <;> omega)) hp (grown_box4 _ _ _ _)
theorem TellsI.or {I : Nat → Prop} {W w' : World} {r : Rs} {e : Ending} (h : TellsI I pb s bash d W r e w') : (∃ a c, r = .fault a c ∧ e = .panicked [{ v := faultV a c, recovered := false }] ∧ W.grownBy w' (some pb)) ∨
    ∃ x t A c, r = .ok x t ∧ e = .returned (.agg #[.string x.op, .string x.name, .int .i64 x.num, .slice A x.kids.length c]) ∧ SumR w' (fun b => I b ∨ W.heap.size ≤ b) x [.string x.op, .string x.name, .int .i64 x.num, .slice A x.kids.length c] ∧ PB w' pb s bash t d ∧ W.grownBy w' (some pb) := by
  cases r with
  | out => exact h.elim
  | fault a c => exact .inl ⟨a, c, rfl, h.1, h.2⟩
  | ok x t => obtain ⟨A, c, h1, h2, h3, h4⟩ := h; exact .inr ⟨x, t, A, c, rfl, h1, h2, h3, h4⟩
end
theorem deeperF_at {d : Nat} {t : Tok} {f : Nat → Rs} (h : d + 1 ≤ 60) : deeperF d t f = f (d + 1) := by
  unfold deeperF
  rw [if_neg (by omega)]
theorem tells_faultr {pb : Nat} {s : ByteArray} {bash : Bool} {d : Nat} {w w' : World} {r : Rs} {a c : Nat} (h : r = .fault a c) (hg : w.grownBy w' (some pb)) : Tells pb s bash d w r (.panicked [{ v := faultV a c, recovered := false }]) w' := by
  subst h
  exact ⟨rfl, hg⟩
theorem set_pw : SetOf ⟨#[42, 42]⟩ [sPw] := ⟨by decide, by decide, by decide, by decide, by decide⟩
section
variable {nx : Nat → Tok} {lit : ByteArray → Int} {pb : Nat} {s : ByteArray} {bash : Bool} {t : Tok} {d k : Nat}
set_option maxHeartbeats 4000000 in
/-- power's closure. -/
theorem power1_calls (I : Nat → Prop) (ih : PC nx lit pb s bash k .power) (d : Nat) (t : Tok) (w : World) (hI : ∀ b, I b → b < w.heap.size ∧ b ≠ pb) (b1 b2 : Nat) (x : E) (A : Option Addr) (c : Nat) (h : PB w pb s bash t d) (h1 : Bx w b1 #[.string x.op, .string x.name, .int .i64 x.num, .slice A x.kids.length c]) (h2 : Bk w b2 42 #[parserV pb]) (hn1 : b1 ≠ pb) (hn2 : b2 ≠ pb)
    (hx : SumR w I x [.string x.op, .string x.name, .int .i64 x.num, .slice A x.kids.length c]) (ho : ((parse nx lit k .power d t).bind fun y t => .ok (bi sPw x y) t) ≠ .out) :
    Calls Tryd.prog 91 #[.pointer (some ⟨b1, 0, none⟩), .pointer (some ⟨b2, 0, none⟩)] w (TellsI I pb s bash d w ((parse nx lit k .power d t).bind fun y t => .ok (bi sPw x y) t)) := by
  have hba := (Below.refl _ w).alloc (Nat.le_refl _) (.cells #[.string ⟨#[]⟩, .string ⟨#[]⟩, .int .i64 0, .slice none 0 0] 25)
  obtain ⟨w0, hw0⟩ : ∃ w0, w0 = w.alloc (.cells #[.string ⟨#[]⟩, .string ⟨#[]⟩, .int .i64 0, .slice none 0 0] 25) := ⟨_, rfl⟩
  have hB0 := Bx.new w #[.string ⟨#[]⟩, .string ⟨#[]⟩, .int .i64 0, .slice none 0 0]
  have hs0 : w0.heap.size = w.heap.size + 1 := by rw [hw0]; simp
  rw [← hw0] at hba hB0
  have HW0 := Lib.hid hw0
  have HS0 := Lib.hid hs0
  have HP := Lib.hid h
  have HB1 := Lib.hid (h1.bel hba)
  have HB2 := Lib.hid (h2.bel hba)
  have HB0 := Lib.hid hB0
  have HG0 := Lib.hid (grown_of_below hba (some pb))
  have HXS := Lib.hid hx
  have HII := Lib.hid hI
  have hne : parse nx lit k .power d t ≠ .out := fun e => ho (by rw [e]; rfl)
  have HCL := Lib.hid (fun W (hW : Below w0.heap.size w0 W) => show Calls Tryd.prog 85 #[parserV pb] W (Tells pb s bash d W (parse nx lit k .power d t)) from ih d t W ((h.bel hba).bel hW) hne)
  obtain ⟨r, hr⟩ : ∃ r, ((parse nx lit k .power d t).bind fun y t => .ok (bi sPw x y) t) = r := ⟨_, rfl⟩
  rw [hr] at ho ⊢
  have HR := Lib.hid hr
  have mixed : Tryd.prog.follows Departure.mixedOrders = true := by kernel_rfl
  clear hw0 hs0 h h1 h2 hB0 hx hI hne ih hr ho hba
  go_enter Tryd.func91, Tryd.ntmps91
  go_wp2_with fail
  rw [← HW0.out]
  obtain ⟨q0, q1, q2, q3, q4, q5, q6, q7⟩ := HB1.out.all
  have y2 := HB2.out.c 0
  go_region_law (first | (go_simp; go_at_call 85; (with_reducible refine (HCL.out _ (by first | exact Below.refl _ _ | exact (Below.refl _ _).drew)).mono ?_); intro e w3 hs; rcases Tells.or hs with ⟨a, c2, h1, rfl, hg3⟩ | ⟨y, t2, A3, c3, h1, rfl, hS3, hp3, hg3⟩; exact ⟨rfl, TellsI.faultr h1 HR.out (grown_trans HG0.out (first_grown hg3))⟩; obtain ⟨r0, r1, r2, r3, r4, r5, r6, r7⟩ := (HB1.out.grown (first_grown hg3) hn1).all; dsimp only) | (go_simp; go_at_call 53; (with_reducible refine (of_calls _ _ _ _ _).mono ?_); rintro e w5 ⟨rfl, hb5⟩; obtain ⟨v0, v1, v2, v3, v4, v5, v6, v7⟩ := (((end_box HP.out (Nat.le_refl _) (HB0.out) (first_grown hg3)).bel ((Below.refl _ w3).alloc (Nat.le_refl _) _)).bel hb5).all; dsimp only))
  all_goals (
    have HV := Lib.hid (((end_box HP.out (Nat.le_refl _) (HB0.out) (first_grown hg3)).bel ((Below.refl _ w3).alloc (Nat.le_refl _) _)).bel hb5)
    have hr := HR.out
    rw [h1] at hr
    have HE := Lib.hid (two_fin sPw HII.out HP.out HXS.out HG0.out (Nat.le_of_eq HS0.out.symm) (first_grown hg3) hS3 hp3 hb5 (grown_box4 (.string sPw) (.string em) (.int .i64 0) (.slice (some ⟨w3.heap.size, 0, none⟩) 2 2)))
    have HRR := Lib.hid (show Rs.ok (bi sPw x y) t2 = r from hr)
    clear q0 q1 q2 q3 q4 q5 q6 q7 r0 r1 r2 r3 r4 r5 r6 r7 v0 v1 v2 v3 v4 v5 v6 v7 hr h1 hS3 hp3 hg3 hb5 hs
    go_wp2_with fail
    refine bodyPost_ret (results_cell_row rfl _ _ w.heap.size 25 #[.string sPw, .string em, .int .i64 0, .slice (some ⟨w3.heap.size, 0, none⟩) 2 2] (0, 0) _ rfl (HV.out.set4 _ _ _ _) Tryd.underlying25 rfl (by kernel_rfl)) rfl ?_
    rw [← HRR.out]
    exact HE.out)
set_option maxHeartbeats 4000000 in
theorem power_calls (hx : Nx nx s.size) (hn : NextC nx pb s bash) (hi : InC) (ihu : PC nx lit pb s bash k .unary) (ih : PC nx lit pb s bash k .power) : PC nx lit pb s bash (k + 1) .power := by
  intro d t w h hro
  rw [parse] at hro ⊢
  have HAT := Lib.hid (p_start w h)
  obtain ⟨w0, hw0⟩ : ∃ w0, w0 = (w.alloc (.cells #[parserV pb] 42)).alloc (.cells #[.string ⟨#[]⟩, .string ⟨#[]⟩, .int .i64 0, .slice none 0 0] 25) := ⟨_, rfl⟩
  rw [show (w.alloc (.cells #[parserV pb] 42)).alloc zeroO = w0 from hw0.symm] at HAT
  have HW0 := Lib.hid hw0
  have HP := Lib.hid h
  have hne : parse nx lit k .unary d t ≠ .out := fun e => hro (by rw [e]; rfl)
  have yp := HAT.out.bp.c 0
  rw [hw0] at yp
  have HCL := Lib.hid (show Calls Tryd.prog 90 #[parserV pb] w0 (Tells pb s bash d w0 (parse nx lit k .unary d t)) from ihu d t w0 HAT.out.p hne)
  obtain ⟨r, hr⟩ : ∃ r, ((parse nx lit k .unary d t).bind fun x t => tookD nx [sPw] t (.ok x t) fun _ t =>
      deeperF d t fun d => (parse nx lit k .power d t).bind fun y t => .ok (bi sPw x y) t) = r := ⟨_, rfl⟩
  rw [hr] at hro ⊢
  have HR := Lib.hid hr
  have HRO := Lib.hid hro
  have HX := Lib.hid hx
  have HN := Lib.hid hn
  have HI := Lib.hid hi
  have HIH := Lib.hid ih
  clear hw0 h hne hr hro hx hn hi ih ihu
  show Calls Tryd.prog 85 #[parserV pb] w _
  go_enter Tryd.func85, Tryd.ntmps85
  go_wp2_with fail
  rw [← HW0.out]
  clear yp
  refine HCL.out.mono ?_
  intro e w1 hs
  rcases Tells.or hs with ⟨a, c, h1, rfl, hg1⟩ | ⟨x, t1, A, c, h1, rfl, hS1, hp1, hg1⟩
  · have HG1 := Lib.hid hg1
    have HE := Lib.hid (tells_fault (d := d) (s := s) (bash := bash) h1 HR.out (grown_trans HAT.out.g hg1))
    clear hg1 hs h1
    go_wp2_with fail
    exact ⟨rfl, HE.out⟩
  · have HXA := Lib.hid (x_start HP.out HAT.out hS1 hp1 hg1)
    have hr := HR.out
    rw [h1] at hr
    have HR2 := Lib.hid (show (tookD nx [sPw] t1 (.ok x t1) fun _ t => deeperF d t fun d => (parse nx lit k .power d t).bind fun y t => .ok (bi sPw x y) t) = r from hr)
    have yp := HXA.out.bp.c 0
    have HT := Lib.hid (took_calls HX.out HN.out HI.out ⟨#[42, 42]⟩ [sPw] set_pw _ HXA.out.p)
    clear hr h1 hS1 hp1 hg1 hs HR HCL
    cases htk : tookF nx [sPw] t1 with
    | none =>
      rw [htk] at HT
      rw [tookD_no htk] at HR2
      obtain rfl : Rs.ok x t1 = r := HR2.out
      go_wp2_with fail
      refine HT.out.mono ?_
      rintro e w2 ⟨rfl, hg2, hp2⟩
      have HXB := Lib.hid (HXA.out.grown HP.out hg2 hp2)
      obtain ⟨q0, q1, q2, q3, q4, q5, q6, q7⟩ := HXB.out.bx.all
      obtain ⟨z0, z1, z2, z3, z4, z5, z6, z7⟩ := HXB.out.br.all
      clear hg2 hp2
      go_wp2_with fail
      refine bodyPost_ret (results_cell_row rfl _ _ (w.heap.size + 1) 25 #[.string x.op, .string x.name, .int .i64 x.num, .slice A x.kids.length c] (0, 0) _ rfl (HXB.out.br.set4 _ _ _ _) Tryd.underlying25 rfl (by kernel_rfl)) rfl ?_
      exact HXB.out.tell HP.out
    | some p =>
      obtain ⟨op, t2⟩ := p
      rw [htk] at HT
      rw [tookD_yes htk] at HR2
      have HR3 := Lib.hid (show (deeperF d t2 fun d => (parse nx lit k .power d t2).bind fun y t => .ok (bi sPw x y) t) = r from HR2.out)
      clear HR2
      go_wp2_with fail
      refine HT.out.mono ?_
      rintro e w2 ⟨rfl, hg2, hp2⟩
      have HXB := Lib.hid (HXA.out.grown HP.out hg2 hp2)
      have yq := HXB.out.bp.c 0
      clear hg2 hp2 yp
      go_wp2_with fail
      have hlt := HP.out.lt
      have hI : ∀ b, (w.heap.size + 1 + 1 ≤ b ∧ b < w1.heap.size) → b < w2.heap.size ∧ b ≠ pb := fun b hb => ⟨by have := HXB.out.bx.lt; omega, by omega⟩
      have hn := HXB.out.n
      refine (deeper_calls (t := t2) (d := d) w2 (fun b => w.heap.size + 1 + 1 ≤ b ∧ b < w1.heap.size) hI 91 #[.pointer (some ⟨w1.heap.size, 0, none⟩), .pointer (some ⟨w.heap.size, 0, none⟩)] (fun d => (parse nx lit k .power d t2).bind fun y t => .ok (bi sPw x y) t) HXB.out.p (enters_of Tryd.func91 (by kernel_rfl) rfl) (fun w4 hp4 hg4 => ?_)).mono ?_
      · have hs4 := hg4.size
        have hxl := HXB.out.bx.lt
        refine power1_calls _ HIH.out (d + 1) t2 w4 (fun b hb => ⟨by have := (hI b hb).1; omega, (hI b hb).2⟩) w1.heap.size w.heap.size x A c hp4 (HXB.out.bx.grown hg4 (by omega)) (HXB.out.bp.grown hg4 (by omega)) (by omega) (by omega) (HXB.out.s.move (fun b hb hl => hg4.block b hl (fun e => (hI b hb).2 (Option.some.inj e))) (fun b hb _ => hb)) ?_
        have h60 := hp4.d60
        have h3 := HR3.out
        rw [deeperF_at (by omega)] at h3
        rw [h3]
        exact HRO.out
      · intro e w3 hs
        rw [HR3.out] at hs
        clear hI hn hlt
        rcases TellsI.or hs with ⟨a, c2, h1, rfl, hg1⟩ | ⟨y, t3, A3, c3, h1, rfl, hS1, hp1, hg1⟩
        · have HE := Lib.hid (tells_faultr (d := d) (s := s) (bash := bash) h1 (grown_trans HXB.out.g hg1))
          clear hg1 hs h1
          go_wp2_with fail
          exact ⟨rfl, HE.out⟩
        · have HBR := Lib.hid (HXB.out.br.grown hg1 (by have := HP.out.lt; omega))
          obtain ⟨z0, z1, z2, z3, z4, z5, z6, z7⟩ := HBR.out.all
          have HE := Lib.hid (HXB.out.tellI HP.out hS1 hp1 hg1)
          have HH := Lib.hid h1
          clear hg1 hs h1 hS1 hp1
          go_wp2_with fail
          refine bodyPost_ret (results_cell_row rfl _ _ (w.heap.size + 1) 25 #[.string y.op, .string y.name, .int .i64 y.num, .slice A3 y.kids.length c3] (0, 0) _ rfl (HBR.out.set4 _ _ _ _) Tryd.underlying25 rfl (by kernel_rfl)) rfl ?_
          rw [HH.out]
          exact HE.out
end
end Go.Proofs.YtlbgnpllbogkeaaDoor.Ext

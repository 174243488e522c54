/- Proved: arith's parser: left's call, whatever function is handed in. -/
import Derived.Test.YtlbgnpllbogkeaaDoorVkArDeeper
import Derived.Deep.RegionHeld3
import Derived.Shelf.Abstract
import Derived.Deep.RegionLaw
import Derived.Shelf.RegionOpenPlain
set_option linter.unusedVariables false
set_option linter.unusedSimpArgs false
namespace Go.Proofs.YtlbgnpllbogkeaaDoor.Ext
open Go.RowKit Go.Proofs.YtlbgnpllbogkeaaDoorW.PrintWords
/-- The measure of the loop: what is left of the text. -/
def leftOf (L pb : Nat) (w : World) : Nat := match w.cell? ⟨pb, 2, none⟩, w.cell? ⟨pb, 5, none⟩ with
  | some (.int _ k), some (.int _ t) => if k = 0 then 0 else L + 1 - t.toNat
  | _, _ => 0
theorem leftOf_PB {w : World} {pb : Nat} {s : ByteArray} {bash : Bool} {t : Tok} {d : Nat} (h : PB w pb s bash t d) : leftOf s.size pb w = wt s.size t := by
  unfold leftOf wt
  rw [h.c2, h.c5]
  simp
/-- What lies at the loop's begin. -/
structure LeftAt (w : World) (B7 pb : Nat) (s : ByteArray) (bash : Bool) (d : Nat) (wr : World) (x : E) (t : Tok) (A : Option Addr) (c : Nat) : Prop where
  p : PB wr pb s bash t d
  g : w.grownBy wr (some pb)
  r : Bx wr w.heap.size #[.string ⟨#[]⟩, .string ⟨#[]⟩, .int .i64 0, .slice none 0 0]
  b : Bx wr B7 #[.string x.op, .string x.name, .int .i64 x.num, .slice A x.kids.length c]
  s : SumR wr (fun b => w.heap.size + 1 ≤ b ∧ b ≠ B7) x [.string x.op, .string x.name, .int .i64 x.num, .slice A x.kids.length c]
theorem first_grown {w w' : World} {row : Option Nat} (h : w.drew.grownBy w' row) : w.grownBy w' row := grown_trans (grown_of_below (Below.refl _ _).drew _) h
abbrev HeldB (w3 : World) (b7 : Nat) (x : E) (A : Option Addr) (c : Nat) : Prop := w3.cell? ⟨b7, 0, none⟩ = some (.string x.op) ∧ w3.cell? ⟨b7, 1, none⟩ = some (.string x.name) ∧ w3.cell? ⟨b7, 2, none⟩ = some (.int .i64 x.num) ∧ w3.cell? ⟨b7, 3, none⟩ = some (.slice A x.kids.length c) ∧ w3.frozen? ⟨b7, 0, none⟩ = false ∧ w3.frozen? ⟨b7, 1, none⟩ = false ∧ w3.frozen? ⟨b7, 2, none⟩ = false ∧ w3.frozen? ⟨b7, 3, none⟩ = false
theorem left_held0 {w3 : World} {b7 : Nat} {x : E} {A : Option Addr} {c : Nat} (h3 : Bx w3 b7 #[.string x.op, .string x.name, .int .i64 x.num, .slice A x.kids.length c]) : HeldB w3 b7 x A c :=
  ⟨h3.c 0, h3.c 1, h3.c 2, h3.c 3, h3.f 0, h3.f 1, h3.f 2, h3.f 3⟩
theorem left_held {w2 w3 : World} {b7 pb : Nat} {x : E} {A : Option Addr} {c : Nat} (h : Bx w2 b7 #[.string x.op, .string x.name, .int .i64 x.num, .slice A x.kids.length c]) (hg : w2.drew.grownBy w3 (some pb)) (hne : b7 ≠ pb) : HeldB w3 b7 x A c := left_held0 (Bx.grown (w := w2.drew) h hg hne)
theorem Tells.or {pb : Nat} {s : ByteArray} {bash : Bool} {d : Nat} {W w' : World} {r : Rs} {e : Ending} (h : Tells pb s bash d W r e w') : (∃ a c, r = .fault a c ∧ e = .panicked [{ v := faultV a c, recovered := false }] ∧ W.grownBy w' (some pb)) ∨
    ∃ x t A c, r = .ok x t ∧ e = .returned (.agg #[.string x.op, .string x.name, .int .i64 x.num, .slice A x.kids.length c]) ∧ SumR w' (W.heap.size ≤ ·) x [.string x.op, .string x.name, .int .i64 x.num, .slice A x.kids.length c] ∧ PB w' pb s bash t d ∧ W.grownBy w' (some pb) := by
  cases r with
  | out => exact h.elim
  | fault a c => exact .inl ⟨a, c, rfl, h.1, h.2⟩
  | ok x t => obtain ⟨A, c, h1, h2, h3, h4⟩ := h; exact .inr ⟨x, t, A, c, rfl, h1, h2, h3, h4⟩
theorem tells_fault {pb : Nat} {s : ByteArray} {bash : Bool} {d : Nat} {w w' : World} {r0 r : Rs} {f : E → Tok → Rs} {a c : Nat} (h : r0 = .fault a c) (hr : r0.bind f = r) (hg : w.grownBy w' (some pb)) : Tells pb s bash d w r (.panicked [{ v := faultV a c, recovered := false }]) w' := by
  subst h
  subst hr
  exact ⟨rfl, hg⟩
theorem Tab.box {w w' : World} {b : Nat} {cs : Array Value} {u : ByteArray} (h : Tab w) (hb : Bx w b cs) (h0 : cs[0]? = some (.string u)) (hg : w.grownBy w' (some b)) : Tab w' := by
  unfold Tab Lib.TabIs World.var? at h ⊢
  obtain ⟨g, hgn, hT⟩ := Option.bind_eq_some_iff.1 h
  rw [hgn, Option.bind_some]
  have hlt : g < w.heap.size := by
    rcases Nat.lt_or_ge g w.heap.size with hl | hl
    · exact hl
    · rw [Array.getElem?_eq_none hl] at hT
      cases hT
  have hne : g ≠ b := by
    intro e
    rw [e, show w.heap[b]? = _ from hb] at hT
    have h1 := congrArg (fun o : Option (Array Value) => o.bind (fun a => a[0]?)) hT
    have h2 : cs[0]? = ((Lib.asciiSpaceTab.map fun z => Value.int .u8 z).toArray)[0]? := h1
    rw [h0, List.getElem?_toArray, List.getElem?_map] at h2
    cases h3 : Lib.asciiSpaceTab[0]? with
    | none => rw [h3] at h2; cases h2
    | some z => rw [h3] at h2; cases h2
  rw [hg.block g hlt (fun e => hne (Option.some.inj e))]
  exact hT
/-- The parser stays while a variable is written. -/
theorem PB.box {w w' : World} {pb b : Nat} {s : ByteArray} {bash : Bool} {t : Tok} {d : Nat} {cs : Array Value} {u : ByteArray} (h : PB w pb s bash t d) (hb : Bx w b cs) (h0 : cs[0]? = some (.string u)) (hne : b ≠ pb) (hg : w.grownBy w' (some b)) : PB w' pb s bash t d :=
  ⟨(hg.block pb h.lt (fun e => hne (Option.some.inj e).symm)).trans h.blk, h.tab.box hb h0 hg, h.d60, h.sz, h.tle, h.txt⟩
theorem two_made {w3 w9 : World} {ok : Nat → Prop} {x y : E} {A A3 : Option Addr} {c c3 g : Nat} (op : ByteArray) (hx : SumR w9 ok x [.string x.op, .string x.name, .int .i64 x.num, .slice A x.kids.length c]) (hy : SumR w9 ok y [.string y.op, .string y.name, .int .i64 y.num, .slice A3 y.kids.length c3])
    (hb : w9.heap[g]? = some (.cells #[.string x.op, .string x.name, .int .i64 x.num, .slice A x.kids.length c, .string y.op, .string y.name, .int .i64 y.num, .slice A3 y.kids.length c3] 25 (0, 0))) (ho : ok g) : SumR w9 ok (bi op x y) [.string op, .string em, .int .i64 0, .slice (some ⟨g, 0, none⟩) 2 2] := by
  refine SumR.made (kids := [x, y]) (css := [[.string x.op, .string x.name, .int .i64 x.num, .slice A x.kids.length c], [.string y.op, .string y.name, .int .i64 y.num, .slice A3 y.kids.length c3]]) op em 0 2 rfl (Nat.le_refl _) (by simp) (fun j k cs hk hcs => ?_) hb ho
  cases j with
  | zero =>
    obtain rfl : x = k := Option.some.inj hk
    obtain rfl := Option.some.inj hcs
    exact hx
  | succ j =>
    cases j with
    | zero =>
      obtain rfl : y = k := Option.some.inj hk
      obtain rfl := Option.some.inj hcs
      exact hy
    | succ j => simp at hk
theorem left_next {w w2 w3 w5 : World} {pb : Nat} {s : ByteArray} {bash : Bool} {t1 t2 : Tok} {d : Nat} {x y : E} {A A3 : Option Addr} {c c3 B7 : Nat} (op : ByteArray) (hpb : pb < w.heap.size) (hlt : w.heap.size < B7) (hp2 : PB w2 pb s bash t1 d) (hg2 : w.grownBy w2 (some pb))
    (hr2 : Bx w2 w.heap.size #[.string ⟨#[]⟩, .string ⟨#[]⟩, .int .i64 0, .slice none 0 0]) (hb2 : Bx w2 B7 #[.string x.op, .string x.name, .int .i64 x.num, .slice A x.kids.length c]) (hs2 : SumR w2 (fun b => w.heap.size + 1 ≤ b ∧ b ≠ B7) x [.string x.op, .string x.name, .int .i64 x.num, .slice A x.kids.length c]) (hg3 : w2.grownBy w3 (some pb))
    (hs3 : SumR w3 (w2.heap.size ≤ ·) y [.string y.op, .string y.name, .int .i64 y.num, .slice A3 y.kids.length c3]) (hp3 : PB w3 pb s bash t2 d)
    (hb5 : Below (w3.alloc (.cells #[.string x.op, .string x.name, .int .i64 x.num, .slice A x.kids.length c, .string y.op, .string y.name, .int .i64 y.num, .slice A3 y.kids.length c3] 25)).heap.size (w3.alloc (.cells #[.string x.op, .string x.name, .int .i64 x.num, .slice A x.kids.length c, .string y.op, .string y.name, .int .i64 y.num, .slice A3 y.kids.length c3] 25)) w5) :
    LeftAt w B7 pb s bash d ((((w5.setCell ⟨B7, 0, none⟩ (.string op)).setCell ⟨B7, 1, none⟩ (.string em)).setCell ⟨B7, 2, none⟩ (.int .i64 0)).setCell ⟨B7, 3, none⟩ (.slice (some ⟨w3.heap.size, 0, none⟩) 2 2)) (bi op x y) t2 (some ⟨w3.heap.size, 0, none⟩) 2 := by
  have hba := (Below.refl _ w3).alloc (Nat.le_refl _) (.cells #[.string x.op, .string x.name, .int .i64 x.num, .slice A x.kids.length c, .string y.op, .string y.name, .int .i64 y.num, .slice A3 y.kids.length c3] 25)
  have hB2 := hb2.lt
  have hs23 := hg3.size
  have hne7 : B7 ≠ pb := by omega
  have hner : w.heap.size ≠ pb := by omega
  have hp5 := (hp3.bel hba).bel hb5
  have hb5' := ((hb2.grown hg3 hne7).bel hba).bel hb5
  have hr5 := ((hr2.grown hg3 hner).bel hba).bel hb5
  have hg5 : w.grownBy w5 (some pb) := grown_trans (grown_trans (grown_trans hg2 hg3) (grown_of_below hba _)) (grown_of_below hb5 _)
  have hgb := grown_box4 (w := w5) (b := B7) (.string op) (.string em) (.int .i64 0) (.slice (some ⟨w3.heap.size, 0, none⟩) 2 2)
  have hk5 : w5.heap[w3.heap.size]? = some (.cells #[.string x.op, .string x.name, .int .i64 x.num, .slice A x.kids.length c, .string y.op, .string y.name, .int .i64 y.num, .slice A3 y.kids.length c3] 25 (0, 0)) := (hb5.block _ (by simp)).trans (heap_alloc_new w3 _)
  have hx9 := (((hs2.move (fun b hb hl => hg3.block b hl (fun e => by injection e with e; omega)) (fun b hb _ => hb)).bel hba).bel hb5).move (fun b hb hl => hgb.block b hl (fun e => hb.2 (Option.some.inj e))) (fun b hb _ => hb)
  have hy9 := ((hs3.bel hba).bel hb5).move (ok' := fun b => w.heap.size + 1 ≤ b ∧ b ≠ B7) (fun b hb hl => hgb.block b hl (fun e => by injection e with e; have hb : w2.heap.size ≤ b := hb; omega)) (fun b hb _ => by have hb : w2.heap.size ≤ b := hb; exact ⟨by omega, by omega⟩)
  refine ⟨hp5.box hb5' rfl hne7 hgb, ?_, (hgb.block _ hr5.lt (fun e => by injection e with e; omega)).trans hr5, hb5'.set4 _ _ _ _, ?_⟩
  · exact ⟨hgb.os.trans hg5.os, hgb.tape.trans hg5.tape, hgb.output.trans hg5.output, Nat.le_trans hg5.size hgb.size, fun k hk hr => (hgb.block k (Nat.lt_of_lt_of_le hk hg5.size) (fun e => by injection e with e; omega)).trans (hg5.block k hk hr)⟩
  · refine two_made (w3 := w3) op hx9 hy9 ((hgb.block _ (blk_lt hk5) (fun e => by injection e with e; omega)).trans hk5) ⟨?_, ?_⟩
    · omega
    · omega
section
variable {nx : Nat → Tok} {pb : Nat} {s : ByteArray} {bash : Bool} {t : Tok} {d : Nat}
set_option maxHeartbeats 4000000 in
theorem left_calls (hx : Nx nx s.size) (hn : NextC nx pb s bash) (hi : InC) (set : ByteArray) (l : List ByteArray) (hs : SetOf set l) (gN : Nat) (ra lb : Array Value) (oneF : Tok → Rs) (k : Nat) (w : World) (h : PB w pb s bash t d)
    (eg : ∀ args w, (callFunc gN args).run Tryd.prog w = .ok (.enter gN args) w)
    (hone : ∀ t1 w1, PB w1 pb s bash t1 d → w.grownBy w1 (some pb) → oneF t1 ≠ .out → Calls Tryd.prog gN (ra ++ lb) w1 (Tells pb s bash d w1 (oneF t1)))
    (hweak : ∀ t1, Of nx s.size t1 → Weak nx s.size (wt s.size t1) (oneF t1))
    (r : Rs) (hr : (oneF t).bind (leftGo nx l oneF k) = r) (hro : r ≠ .out) :
    Calls Tryd.prog 32 #[parserV pb, .string set, .func (.func gN) ra lb] w (Tells pb s bash d w r) := by
  have hp0 := h.bel ((Below.refl _ w).alloc (Nat.le_refl _) (.cells #[.string ⟨#[]⟩, .string ⟨#[]⟩, .int .i64 0, .slice none 0 0] 25))
  have hg0 := grown_of_below ((Below.refl _ w).alloc (Nat.le_refl _) (.cells #[.string ⟨#[]⟩, .string ⟨#[]⟩, .int .i64 0, .slice none 0 0] 25)) (some pb)
  have hne : oneF t ≠ .out := by
    intro e
    rw [e] at hr
    exact hro hr.symm
  have HC := Lib.hid (hone t _ hp0 hg0 hne)
  have HP0 := Lib.hid hp0
  have HG0 := Lib.hid hg0
  have HP := Lib.hid h
  have HN := Lib.hid hn
  have HI := Lib.hid hi
  have HX := Lib.hid hx
  have HS := Lib.hid hs
  have HO := Lib.hid hone
  have HW := Lib.hid hweak
  clear hp0 hg0 h hn hi hx hs hone hweak hne
  cases h1 : oneF t with
  | out =>
    rw [h1] at hr
    exact absurd hr.symm hro
  | fault a c =>
    rw [h1] at hr HC
    obtain rfl : r = .fault a c := hr.symm
    clear hro h1
    go_enter Tryd.func32, Tryd.ntmps32
    go_wp2_with fail
    refine HC.out.mono ?_
    rintro e w1 ⟨rfl, hg1⟩
    have HG1 := Lib.hid hg1
    clear hg1
    go_wp2_with fail
    exact ⟨rfl, rfl, grown_trans HG0.out HG1.out⟩
  | ok x t1 =>
    rw [h1] at hr HC
    have HR := Lib.hid (show leftGo nx l oneF k x t1 = r from hr)
    have HRO := Lib.hid hro
    clear hro h1 hr
    go_enter Tryd.func32, Tryd.ntmps32
    go_wp2_with fail
    refine HC.out.mono ?_
    rintro e w1 ⟨A, c, rfl, hS1, hp1, hg1⟩
    have hL : LeftAt w w1.heap.size pb s bash d (w1.alloc (.cells #[.string x.op, .string x.name, .int .i64 x.num, .slice A x.kids.length c] 25)) x t1 A c := by
      have hb := (Below.refl _ w1).alloc (Nat.le_refl _) (.cells #[.string x.op, .string x.name, .int .i64 x.num, .slice A x.kids.length c] 25)
      refine ⟨hp1.bel hb, grown_trans (grown_trans HG0.out hg1) (grown_of_below hb _), ((Bx.new w _).grown hg1 (Ne.symm (Nat.ne_of_lt HP.out.lt))).bel hb, Bx.new w1 _, ?_⟩
      have h0 : (w.alloc (.cells #[.string ⟨#[]⟩, .string ⟨#[]⟩, .int .i64 0, .slice none 0 0] 25)).heap.size = w.heap.size + 1 := by simp
      rw [h0] at hS1
      exact (hS1.mono (fun b hb' hl => ⟨hb', Nat.ne_of_lt hl⟩)).bel hb
    have HL := Lib.hid hL
    have HLT := Lib.hid (show w.heap.size < w1.heap.size by have h1 := hg1.size; simp at h1; omega)
    have hB7 : w1.heap.size ≠ pb := Ne.symm (Nat.ne_of_lt hp1.lt)
    clear hL hS1 hp1 hg1 HC
    go_wp2_with fail
    go_loopw [8] (fun _ wr => ∃ k' x t A c, LeftAt w w1.heap.size pb s bash d wr x t A c ∧ leftGo nx l oneF k' x t = r) (fun _ wr => leftOf s.size pb wr)
    case atStart => exact ⟨k, x, t1, A, c, HL.out, HR.out⟩
    case round =>
      clear HL HR
      obtain ⟨k', x, t, A, c, hL, hr⟩ := hrel
      have HL := Lib.hid hL
      cases k' with
      | zero => exact absurd hr.symm HRO.out
      | succ k' =>
        rw [leftGo] at hr
        have HT := Lib.hid (took_calls HX.out HN.out HI.out set l HS.out wr hL.p)
        clear hL
        cases ht : tookF nx l t with
        | none =>
          rw [ht] at hr HT
          obtain rfl : r = .ok x t := hr.symm
          clear hr
          go_wp2_with fail
          refine HT.out.mono ?_
          rintro e w2 ⟨rfl, hg2, hp2⟩
          have hb2 := HL.out.b.grown hg2 hB7
          have hr2 := HL.out.r.grown hg2 (Ne.symm (Nat.ne_of_lt HP.out.lt))
          have y0 := hb2.c 0
          have y1 := hb2.c 1
          have y2 := hb2.c 2
          have y3 := hb2.c 3
          have z0 := hr2.c 0
          have z1 := hr2.c 1
          have z2 := hr2.c 2
          have z3 := hr2.c 3
          have zf := hr2.f
          have hS2 : SumR w2 (w.heap.size + 1 ≤ ·) x [.string x.op, .string x.name, .int .i64 x.num, .slice A x.kids.length c] :=
            HL.out.s.move (fun b hb hl => hg2.block b hl (fun e => by injection e with e; have := HP.out.lt; omega)) (fun b hb _ => hb.1)
          have HG2 := Lib.hid (grown_trans HL.out.g hg2)
          have HS2 := Lib.hid hS2
          have HP2 := Lib.hid hp2
          have HR2 := Lib.hid hr2
          clear hg2 hp2 hb2 hr2 hS2
          go_wp2_with fail
          refine bodyPost_ret (results_cell_row rfl _ _ w.heap.size 25 #[.string x.op, .string x.name, .int .i64 x.num, .slice A x.kids.length c] (0, 0) _ rfl (HR2.out.set4 _ _ _ _) Tryd.underlying25 rfl (by kernel_rfl)) rfl ?_
          exact tells_fin (Nat.le_refl _) HP.out HG2.out HS2.out HP2.out (grown_box4 _ _ _ _)
        | some p =>
          obtain ⟨op, t1⟩ := p
          rw [ht] at hr HT
          have HR := Lib.hid hr
          clear hr
          go_wp2_with fail
          refine HT.out.mono ?_
          rintro e w2 ⟨rfl, hg2, hp2⟩
          have hb2 := HL.out.b.grown hg2 hB7
          have y0 := hb2.c 0
          have y1 := hb2.c 1
          have y2 := hb2.c 2
          have y3 := hb2.c 3
          have HCL := Lib.hid (fun W hW hn => HO.out t1 W (hp2.bel hW) (grown_trans (grown_trans HL.out.g hg2) (grown_of_below hW _)) hn)
          have hS2 : SumR w2 (fun b => w.heap.size + 1 ≤ b ∧ b ≠ w1.heap.size) x [.string x.op, .string x.name, .int .i64 x.num, .slice A x.kids.length c] :=
            HL.out.s.move (fun b hb hl => hg2.block b hl (fun e => by injection e with e; have := HP.out.lt; omega)) (fun b hb _ => hb)
          have HG2 := Lib.hid (grown_trans HL.out.g hg2)
          have HS2 := Lib.hid hS2
          have HP2 := Lib.hid hp2
          have HR2 := Lib.hid (HL.out.r.grown hg2 (Ne.symm (Nat.ne_of_lt HP.out.lt)))
          have HB2 := Lib.hid hb2
          have mixed : Tryd.prog.follows Departure.mixedOrders = true := by kernel_rfl
          have hr := HR.out
          clear hg2 hp2 hb2 hS2 HT HR
          have hne : oneF t1 ≠ .out := by
            intro e
            rw [e] at hr
            exact HRO.out hr.symm
          have HNE := Lib.hid hne
          have HR := Lib.hid hr
          clear hr hne
          go_wp2_with fail
          obtain ⟨q0, q1, q2, q3, q4, q5, q6, q7⟩ := left_held0 HB2.out
          go_region_law (first | (go_simp; go_at_fn gN; (with_reducible refine (HCL.out _ (by first | exact Below.refl _ _ | exact (Below.refl _ _).drew) HNE.out).mono ?_); intro e w3 hs; rcases Tells.or hs with ⟨a, c2, h1, rfl, hg3⟩ | ⟨y, t2, A3, c3, h1, rfl, hS3, hp3, hg3⟩; exact ⟨rfl, tells_fault h1 HR.out (grown_trans HG2.out (first_grown hg3))⟩; obtain ⟨r0, r1, r2, r3, r4, r5, r6, r7⟩ := left_held HB2.out hg3 hB7; dsimp only) | (go_simp; go_at_call 53; (with_reducible refine (of_calls _ _ _ _ _).mono ?_); rintro e w5 ⟨rfl, hb5⟩; obtain ⟨v0, v1, v2, v3, v4, v5, v6, v7⟩ := left_held HB2.out (grown_trans (grown_trans hg3 (grown_of_below ((Below.refl _ w3).alloc (Nat.le_refl _) _) _)) (grown_of_below hb5 _)) hB7; dsimp only))
          all_goals (
            clear q0 q1 q2 q3 q4 q5 q6 q7 r0 r1 r2 r3 r4 r5 r6 r7 v0 v1 v2 v3 v4 v5 v6 v7
            have hr := HR.out
            rw [h1] at hr
            have hN := left_next op HP.out.lt HLT.out HP2.out HG2.out HR2.out HB2.out HS2.out (first_grown hg3) hS3 hp3 hb5
            have HNX := Lib.hid hN
            have HR9 := Lib.hid (show leftGo nx l oneF k' (bi op x y) t2 = r from hr)
            clear hr hS3 hp3 hg3 hb5
            go_wp2_with fail
            go_roundw
            (case rel => exact ⟨k', bi op x y, t2, _, _, HNX.out, HR9.out⟩)
            (case measure =>
              have h2 := HW.out t1 HP2.out.tle
              rw [h1] at h2
              have h3 := (of_took HX.out HL.out.p.tle ht).2
              rw [leftOf_PB HNX.out.p, leftOf_PB HL.out.p]
              exact Nat.lt_of_le_of_lt h2.2 h3))
end
end Go.Proofs.YtlbgnpllbogkeaaDoor.Ext

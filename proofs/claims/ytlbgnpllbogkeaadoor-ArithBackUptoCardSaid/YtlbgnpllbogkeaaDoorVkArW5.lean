/- Proved: arith's parser: choice's call by what is within it; its closure's. -/
import Derived.Test.YtlbgnpllbogkeaaDoorVkArW3
set_option linter.unusedVariables false
set_option linter.unusedSimpArgs false
namespace Go.Proofs.YtlbgnpllbogkeaaDoor.Ext
open Go.RowKit Go.Proofs.YtlbgnpllbogkeaaDoorW.PrintWords
abbrev threeO (x y z : E) (A A2 A3 : Option Addr) (c c2 c3 : Nat) : Obj := .cells #[.string x.op, .string x.name, .int .i64 x.num, .slice A x.kids.length c, .string y.op, .string y.name, .int .i64 y.num, .slice A2 y.kids.length c2, .string z.op, .string z.name, .int .i64 z.num, .slice A3 z.kids.length c3] 25
theorem three_made {w9 : World} {ok : Nat → Prop} {x y z : E} {A A2 A3 : Option Addr} {c c2 c3 g : Nat} (op : ByteArray) (hx : SumR w9 ok x [.string x.op, .string x.name, .int .i64 x.num, .slice A x.kids.length c]) (hy : SumR w9 ok y [.string y.op, .string y.name, .int .i64 y.num, .slice A2 y.kids.length c2]) (hz : SumR w9 ok z [.string z.op, .string z.name, .int .i64 z.num, .slice A3 z.kids.length c3])
    (hb : w9.heap[g]? = some (.cells #[.string x.op, .string x.name, .int .i64 x.num, .slice A x.kids.length c, .string y.op, .string y.name, .int .i64 y.num, .slice A2 y.kids.length c2, .string z.op, .string z.name, .int .i64 z.num, .slice A3 z.kids.length c3] 25 (0, 0))) (ho : ok g) : SumR w9 ok (.mk op em 0 [x, y, z]) [.string op, .string em, .int .i64 0, .slice (some ⟨g, 0, none⟩) 3 3] := by
  refine SumR.made (kids := [x, y, z]) (css := [[.string x.op, .string x.name, .int .i64 x.num, .slice A x.kids.length c], [.string y.op, .string y.name, .int .i64 y.num, .slice A2 y.kids.length c2], [.string z.op, .string z.name, .int .i64 z.num, .slice A3 z.kids.length c3]]) op em 0 3 rfl (Nat.le_refl _) (by simp) (fun j k cs hk hcs => ?_) hb ho
  cases j with
  | zero =>
    obtain rfl : x = k := Option.some.inj hk
    obtain rfl := Option.some.inj hcs
    exact hx
  | succ j =>
    cases j with
    | zero =>
      obtain rfl : y = k := Option.some.inj hk
      obtain rfl := Option.some.inj hcs
      exact hy
    | succ j =>
      cases j with
      | zero =>
        obtain rfl : z = k := Option.some.inj hk
        obtain rfl := Option.some.inj hcs
        exact hz
      | succ j => simp at hk
theorem three_fin {w wB w3 w5 w9 : World} {pb : Nat} {s : ByteArray} {bash : Bool} {t0 t2 : Tok} {d d0 : Nat} {x y z : E} {A A2 A3 : Option Addr} {c c2 c3 : Nat} {I : Nat → Prop} (op : ByteArray) (hI : ∀ b, I b → b < w.heap.size ∧ b ≠ pb) (h0 : PB w pb s bash t0 d0) (hg0 : w.grownBy wB (some pb)) (hlt : w.heap.size + 1 ≤ wB.heap.size)
    (hx : SumR wB (fun b => I b ∨ w.heap.size + 1 ≤ b) x [.string x.op, .string x.name, .int .i64 x.num, .slice A x.kids.length c]) (hy : SumR wB (fun b => I b ∨ w.heap.size + 1 ≤ b) y [.string y.op, .string y.name, .int .i64 y.num, .slice A2 y.kids.length c2]) (hg3 : wB.grownBy w3 (some pb))
    (hS3 : SumR w3 (wB.heap.size ≤ ·) z [.string z.op, .string z.name, .int .i64 z.num, .slice A3 z.kids.length c3]) (hp3 : PB w3 pb s bash t2 d) (hb5 : Below (w3.alloc (threeO x y z A A2 A3 c c2 c3)).heap.size (w3.alloc (threeO x y z A A2 A3 c c2 c3)) w5) (hg9 : w5.grownBy w9 (some w.heap.size)) :
    TellsI I pb s bash d w (.ok (.mk op em 0 [x, y, z]) t2) (.returned (.agg #[.string op, .string em, .int .i64 0, .slice (some ⟨w3.heap.size, 0, none⟩) 3 3])) w9 := by
  have hba := (Below.refl _ w3).alloc (Nat.le_refl _) (threeO x y z A A2 A3 c c2 c3)
  have hlp := h0.lt
  have hs3 := hg3.size
  have hk5 : w5.heap[w3.heap.size]? = some (.cells #[.string x.op, .string x.name, .int .i64 x.num, .slice A x.kids.length c, .string y.op, .string y.name, .int .i64 y.num, .slice A2 y.kids.length c2, .string z.op, .string z.name, .int .i64 z.num, .slice A3 z.kids.length c3] 25 (0, 0)) := (hb5.block _ (by simp)).trans (heap_alloc_new w3 _)
  have hnp : ∀ b, (I b ∨ w.heap.size + 1 ≤ b) → b ≠ pb := fun b hb => by
    rcases hb with hb | hb
    · exact (hI b hb).2
    · omega
  have hx5 := ((hx.move (fun b hb hl => hg3.block b hl (fun e => hnp b hb (Option.some.inj e))) (fun b hb _ => hb)).bel hba).bel hb5
  have hy5 := ((hy.move (fun b hb hl => hg3.block b hl (fun e => hnp b hb (Option.some.inj e))) (fun b hb _ => hb)).bel hba).bel hb5
  have hz5 : SumR w5 (fun b => I b ∨ w.heap.size + 1 ≤ b) z [.string z.op, .string z.name, .int .i64 z.num, .slice A3 z.kids.length c3] :=
    ((hS3.bel hba).bel hb5).mono (fun b hb _ => .inr (Nat.le_trans hlt hb))
  exact tells_finI hI (Nat.le_refl _) h0 (grown_trans (grown_trans (grown_trans hg0 hg3) (grown_of_below hba _)) (grown_of_below hb5 _)) (three_made op hx5 hy5 hz5 hk5 (.inr (by omega))) ((hp3.bel hba).bel hb5) hg9
theorem set_qu : SetOf ⟨#[63]⟩ [sQu] := ⟨by decide, by decide, by decide, by decide, by decide⟩
theorem set_cl : SetOf ⟨#[58]⟩ [sCl] := ⟨by decide, by decide, by decide, by decide, by decide⟩
theorem TellsI.faultq {I : Nat → Prop} {pb : Nat} {s : ByteArray} {bash : Bool} {d : Nat} {w w' : World} {r : Rs} {a c : Nat} (h : r = .fault a c) (hg : w.grownBy w' (some pb)) : TellsI I pb s bash d w r (.panicked [{ v := faultV a c, recovered := false }]) w' := by
  subst h
  exact ⟨rfl, hg⟩
section
variable {nx : Nat → Tok} {lit : ByteArray → Int} {pb : Nat} {s : ByteArray} {bash : Bool} {t : Tok} {d k : Nat}
set_option maxHeartbeats 8000000 in
/-- choice's closure. -/
theorem choice1_calls (hx : Nx nx s.size) (hn : NextC nx pb s bash) (hi : InC) (I : Nat → Prop) (iha : PC nx lit pb s bash k .assign) (ih : PC nx lit pb s bash k .choice) (d : Nat) (t : Tok) (w : World) (hI : ∀ b, I b → b < w.heap.size ∧ b ≠ pb) (b1 b2 : Nat) (x : E) (A : Option Addr) (c : Nat) (h : PB w pb s bash t d) (h1 : Bx w b1 #[.string x.op, .string x.name, .int .i64 x.num, .slice A x.kids.length c]) (h2 : Bk w b2 42 #[parserV pb]) (hn1 : b1 ≠ pb) (hn2 : b2 ≠ pb)
    (hxs : SumR w I x [.string x.op, .string x.name, .int .i64 x.num, .slice A x.kids.length c]) (ho : ((parse nx lit k .assign d t).bind fun y t => wantF nx sCl t fun t => (parse nx lit k .choice d t).bind fun z t => .ok (.mk sTern em 0 [x, y, z]) t) ≠ .out) :
    Calls Tryd.prog 76 #[.pointer (some ⟨b2, 0, none⟩), .pointer (some ⟨b1, 0, none⟩)] w (TellsI I pb s bash d w ((parse nx lit k .assign d t).bind fun y t => wantF nx sCl t fun t => (parse nx lit k .choice d t).bind fun z t => .ok (.mk sTern em 0 [x, y, z]) t)) := by
  have hba := (Below.refl _ w).alloc (Nat.le_refl _) (.cells #[.string ⟨#[]⟩, .string ⟨#[]⟩, .int .i64 0, .slice none 0 0] 25)
  obtain ⟨w0, hw0⟩ : ∃ w0, w0 = w.alloc (.cells #[.string ⟨#[]⟩, .string ⟨#[]⟩, .int .i64 0, .slice none 0 0] 25) := ⟨_, rfl⟩
  have hB0 := Bx.new w #[.string ⟨#[]⟩, .string ⟨#[]⟩, .int .i64 0, .slice none 0 0]
  have hs0 : w0.heap.size = w.heap.size + 1 := by rw [hw0]; simp
  have y2 := (h2.bel hba).c 0
  rw [← hw0] at hba hB0
  have HW0 := Lib.hid hw0
  have HS0 := Lib.hid hs0
  have HP := Lib.hid h
  have HB1 := Lib.hid (h1.bel hba)
  have HB2 := Lib.hid (h2.bel hba)
  have HB0 := Lib.hid hB0
  have HG0 := Lib.hid (grown_of_below hba (some pb))
  have HXS := Lib.hid hxs
  have HII := Lib.hid hI
  have hne : parse nx lit k .assign d t ≠ .out := fun e => ho (by rw [e]; rfl)
  have HCL := Lib.hid (show Calls Tryd.prog 33 #[parserV pb] w0 (Tells pb s bash d w0 (parse nx lit k .assign d t)) from iha d t w0 (h.bel hba) hne)
  obtain ⟨r, hr⟩ : ∃ r, ((parse nx lit k .assign d t).bind fun y t => wantF nx sCl t fun t => (parse nx lit k .choice d t).bind fun z t => .ok (.mk sTern em 0 [x, y, z]) t) = r := ⟨_, rfl⟩
  rw [hr] at ho ⊢
  have HR := Lib.hid hr
  have HRO := Lib.hid ho
  have HIH := Lib.hid ih
  have HX := Lib.hid hx
  have HN := Lib.hid hn
  have HI := Lib.hid hi
  have mixed : Tryd.prog.follows Departure.mixedOrders = true := by kernel_rfl
  clear hw0 hs0 h h1 h2 hB0 hxs hI hne ih iha hr ho hba hx hn hi
  go_enter Tryd.func76, Tryd.ntmps76
  go_wp2_with fail
  rw [← HW0.out]
  refine HCL.out.mono ?_
  intro e w1 hs
  rcases Tells.or hs with ⟨a, c2, h1, rfl, hg1⟩ | ⟨y, t2, A2, c2, h1, rfl, hS1, hp1, hg1⟩
  · have HE := Lib.hid (TellsI.faultr (I := I) (d := d) (s := s) (bash := bash) h1 HR.out (grown_trans HG0.out hg1))
    clear hg1 hs h1
    go_wp2_with fail
    exact ⟨rfl, HE.out⟩
  · have hr := HR.out
    rw [h1] at hr
    have HR2 := Lib.hid (show (wantF nx sCl t2 fun t => (parse nx lit k .choice d t).bind fun z t => .ok (.mk sTern em 0 [x, y, z]) t) = r from hr)
    have hlt := HP.out.lt
    have hbo := (Below.refl _ w1).alloc (Nat.le_refl _) (oneO y A2 c2)
    have hg1' := grown_trans hg1 (grown_of_below hbo (some pb))
    have HPY := Lib.hid (hp1.bel hbo)
    have HGY := Lib.hid (grown_trans HG0.out hg1')
    have HBY := Lib.hid (Bx.new w1 #[.string y.op, .string y.name, .int .i64 y.num, .slice A2 y.kids.length c2])
    have HB1Y := Lib.hid (HB1.out.grown hg1' hn1)
    have HB2Y := Lib.hid (HB2.out.grown hg1' hn2)
    have HB0Y := Lib.hid (HB0.out.grown hg1' (by omega))
    have hsy : w.heap.size + 1 ≤ w1.heap.size := by have := hg1.size; have := HS0.out; omega
    have HSY := Lib.hid hsy
    have hys : SumR (w1.alloc (oneO y A2 c2)) (fun b => I b ∨ w.heap.size + 1 ≤ b) y [.string y.op, .string y.name, .int .i64 y.num, .slice A2 y.kids.length c2] := (hS1.bel hbo).mono (fun b hb _ => .inr (by have hb : w0.heap.size ≤ b := hb; have := HS0.out; omega))
    have hxs : SumR (w1.alloc (oneO y A2 c2)) (fun b => I b ∨ w.heap.size + 1 ≤ b) x [.string x.op, .string x.name, .int .i64 x.num, .slice A x.kids.length c] := HXS.out.move (fun b hb hl => HGY.out.block b hl (fun e => (HII.out b hb).2 (Option.some.inj e))) (fun b hb _ => .inl hb)
    have HYS := Lib.hid hys
    have HXY := Lib.hid hxs
    have yp := HB2Y.out.c 0
    have HT := Lib.hid (want_calls HX.out HN.out HI.out ⟨#[58]⟩ set_cl _ HPY.out)
    clear hr h1 hS1 hp1 hg1 hs HR HCL hbo hg1' hsy hys hxs y2
    cases htk : tookF nx [sCl] t2 with
    | none =>
      rw [show tookF nx [(⟨#[58]⟩ : ByteArray)] t2 = none from htk] at HT
      have hr := HR2.out
      unfold wantF at hr
      rw [htk] at hr
      have HR3 := Lib.hid (show r = .fault t2.pos 33 from hr.symm)
      clear hr hlt
      go_wp2_with fail
      refine HT.out.mono ?_
      rintro e w2 ⟨rfl, hg2⟩
      have HE := Lib.hid (TellsI.faultq (I := I) (d := d) (s := s) (bash := bash) HR3.out (grown_trans HGY.out hg2))
      clear hg2
      go_wp2_with fail
      exact ⟨rfl, HE.out⟩
    | some p =>
      obtain ⟨op, t3⟩ := p
      rw [show tookF nx [(⟨#[58]⟩ : ByteArray)] t2 = some (op, t3) from htk] at HT
      have hr := HR2.out
      unfold wantF at hr
      rw [htk] at hr
      have HR3 := Lib.hid (show ((parse nx lit k .choice d t3).bind fun z t => .ok (.mk sTern em 0 [x, y, z]) t) = r from hr)
      have HNE := Lib.hid (show parse nx lit k .choice d t3 ≠ .out from fun e => HRO.out (by rw [← HR3.out, e]; rfl))
      clear hr
      go_wp2_with fail
      refine HT.out.mono ?_
      rintro e w2 ⟨rfl, hg2, hp2⟩
      have hnp : ∀ b, (I b ∨ w.heap.size + 1 ≤ b) → b ≠ pb := fun b hb => by
        rcases hb with hb | hb
        · exact (HII.out b hb).2
        · omega
      have HYZ := Lib.hid (HYS.out.move (ok' := fun b => I b ∨ w.heap.size + 1 ≤ b) (fun b hb hl => hg2.block b hl (fun e => hnp b hb (Option.some.inj e))) (fun b hb _ => hb))
      have HXZ := Lib.hid (HXY.out.move (ok' := fun b => I b ∨ w.heap.size + 1 ≤ b) (fun b hb hl => hg2.block b hl (fun e => hnp b hb (Option.some.inj e))) (fun b hb _ => hb))
      have hny : w1.heap.size ≠ pb := by have := HSY.out; omega
      have HBZ := Lib.hid (HBY.out.grown hg2 hny)
      have HB1Z := Lib.hid (HB1Y.out.grown hg2 hn1)
      have HB2Z := Lib.hid (HB2Y.out.grown hg2 hn2)
      have HB0Z := Lib.hid (HB0Y.out.grown hg2 (by omega))
      have HGZ := Lib.hid (grown_trans HGY.out hg2)
      have hsz : w.heap.size + 1 ≤ w2.heap.size := by have h1 := hg2.size; have h2 := HSY.out; simp at h1; omega
      have HSZ := Lib.hid hsz
      have HCZ := Lib.hid (fun W (hW : Below w2.heap.size w2 W) => show Calls Tryd.prog 54 #[parserV pb] W (Tells pb s bash d W (parse nx lit k .choice d t3)) from HIH.out d t3 W (hp2.bel hW) HNE.out)
      clear hg2 hp2 hnp hlt hsz yp HT HNE HYS HXY HBY HB1Y HB2Y HB0Y HGY HPY HSY
      go_wp2_with fail
      obtain ⟨q0, q1, q2, q3, q4, q5, q6, q7⟩ := HB1Z.out.all
      obtain ⟨p0, p1, p2, p3, p4, p5, p6, p7⟩ := HBZ.out.all
      have yq := HB2Z.out.c 0
      go_region_law (first | (go_simp; go_at_call 54; (with_reducible refine (HCZ.out _ (by first | exact Below.refl _ _ | exact (Below.refl _ _).drew)).mono ?_); intro e w3 hs; rcases Tells.or hs with ⟨a, c2, h1, rfl, hg3⟩ | ⟨z, t4, A3, c3, h1, rfl, hS3, hp3, hg3⟩; exact ⟨rfl, TellsI.faultr h1 HR3.out (grown_trans HGZ.out (first_grown hg3))⟩; obtain ⟨r0, r1, r2, r3, r4, r5, r6, r7⟩ := (HB1Z.out.grown (first_grown hg3) hn1).all; obtain ⟨s0, s1, s2, s3, s4, s5, s6, s7⟩ := (HBZ.out.grown (first_grown hg3) hny).all; dsimp only) | (go_simp; go_at_call 53; (with_reducible refine (of_calls _ _ _ _ _).mono ?_); rintro e w5 ⟨rfl, hb5⟩; obtain ⟨v0, v1, v2, v3, v4, v5, v6, v7⟩ := (((end_box HP.out (Nat.le_refl _) (HB0Z.out) (first_grown hg3)).bel ((Below.refl _ w3).alloc (Nat.le_refl _) _)).bel hb5).all; dsimp only))
      all_goals (
        have HV := Lib.hid (((end_box HP.out (Nat.le_refl _) (HB0Z.out) (first_grown hg3)).bel ((Below.refl _ w3).alloc (Nat.le_refl _) _)).bel hb5)
        have hr := HR3.out
        rw [h1] at hr
        have HE := Lib.hid (three_fin sTern HII.out HP.out HGZ.out HSZ.out HXZ.out HYZ.out (first_grown hg3) hS3 hp3 hb5 (grown_box4 (.string sTern) (.string em) (.int .i64 0) (.slice (some ⟨w3.heap.size, 0, none⟩) 3 3)))
        have HRR := Lib.hid (show Rs.ok (.mk sTern em 0 [x, y, z]) t4 = r from hr)
        clear q0 q1 q2 q3 q4 q5 q6 q7 p0 p1 p2 p3 p4 p5 p6 p7 r0 r1 r2 r3 r4 r5 r6 r7 s0 s1 s2 s3 s4 s5 s6 s7 v0 v1 v2 v3 v4 v5 v6 v7 hr h1 hS3 hp3 hg3 hb5 hs
        go_wp2_with fail
        refine bodyPost_ret (results_cell_row rfl _ _ w.heap.size 25 #[.string sTern, .string em, .int .i64 0, .slice (some ⟨w3.heap.size, 0, none⟩) 3 3] (0, 0) _ rfl (HV.out.set4 _ _ _ _) Tryd.underlying25 rfl (by kernel_rfl)) rfl ?_
        rw [← HRR.out]
        exact HE.out)
set_option maxHeartbeats 4000000 in
theorem choice_calls (hx : Nx nx s.size) (hn : NextC nx pb s bash) (hi : InC) (ihu : PC nx lit pb s bash k (.level 0)) (iha : PC nx lit pb s bash k .assign) (ih : PC nx lit pb s bash k .choice) : PC nx lit pb s bash (k + 1) .choice := by
  intro d t w h hro
  rw [parse] at hro ⊢
  have HAT := Lib.hid (p_start w h)
  obtain ⟨w0, hw0⟩ : ∃ w0, w0 = (w.alloc (.cells #[parserV pb] 42)).alloc (.cells #[.string ⟨#[]⟩, .string ⟨#[]⟩, .int .i64 0, .slice none 0 0] 25) := ⟨_, rfl⟩
  rw [show (w.alloc (.cells #[parserV pb] 42)).alloc zeroO = w0 from hw0.symm] at HAT
  have HW0 := Lib.hid hw0
  have HP := Lib.hid h
  have hne : parse nx lit k (.level 0) d t ≠ .out := fun e => hro (by rw [e]; rfl)
  have yp := HAT.out.bp.c 0
  rw [hw0] at yp
  have HCL := Lib.hid (show Calls Tryd.prog 75 #[parserV pb, .int .i64 (0 : Nat)] w0 (Tells pb s bash d w0 (parse nx lit k (.level 0) d t)) from ihu d t w0 HAT.out.p hne)
  obtain ⟨r, hr⟩ : ∃ r, ((parse nx lit k (.level 0) d t).bind fun x t => tookD nx [sQu] t (.ok x t) fun _ t =>
      deeperF d t fun d => (parse nx lit k .assign d t).bind fun y t => wantF nx sCl t fun t => (parse nx lit k .choice d t).bind fun z t => .ok (.mk sTern em 0 [x, y, z]) t) = r := ⟨_, rfl⟩
  rw [hr] at hro ⊢
  have HR := Lib.hid hr
  have HRO := Lib.hid hro
  have HX := Lib.hid hx
  have HN := Lib.hid hn
  have HI := Lib.hid hi
  have HIH := Lib.hid ih
  have HIA := Lib.hid iha
  clear hw0 h hne hr hro hx hn hi ih ihu iha
  show Calls Tryd.prog 54 #[parserV pb] w _
  go_enter Tryd.func54, Tryd.ntmps54
  go_wp2_with fail
  rw [← HW0.out]
  clear yp
  refine HCL.out.mono ?_
  intro e w1 hs
  rcases Tells.or hs with ⟨a, c, h1, rfl, hg1⟩ | ⟨x, t1, A, c, h1, rfl, hS1, hp1, hg1⟩
  · have HG1 := Lib.hid hg1
    have HE := Lib.hid (tells_fault (d := d) (s := s) (bash := bash) h1 HR.out (grown_trans HAT.out.g hg1))
    clear hg1 hs h1
    go_wp2_with fail
    exact ⟨rfl, HE.out⟩
  · have HXA := Lib.hid (x_start HP.out HAT.out hS1 hp1 hg1)
    have hr := HR.out
    rw [h1] at hr
    have HR2 := Lib.hid (show (tookD nx [sQu] t1 (.ok x t1) fun _ t => deeperF d t fun d => (parse nx lit k .assign d t).bind fun y t => wantF nx sCl t fun t => (parse nx lit k .choice d t).bind fun z t => .ok (.mk sTern em 0 [x, y, z]) t) = r from hr)
    have yp := HXA.out.bp.c 0
    have HT := Lib.hid (took_calls HX.out HN.out HI.out ⟨#[63]⟩ [sQu] set_qu _ HXA.out.p)
    clear hr h1 hS1 hp1 hg1 hs HR HCL
    cases htk : tookF nx [sQu] t1 with
    | none =>
      rw [htk] at HT
      rw [tookD_no htk] at HR2
      obtain rfl : Rs.ok x t1 = r := HR2.out
      go_wp2_with fail
      refine HT.out.mono ?_
      rintro e w2 ⟨rfl, hg2, hp2⟩
      have HXB := Lib.hid (HXA.out.grown HP.out hg2 hp2)
      obtain ⟨q0, q1, q2, q3, q4, q5, q6, q7⟩ := HXB.out.bx.all
      obtain ⟨z0, z1, z2, z3, z4, z5, z6, z7⟩ := HXB.out.br.all
      clear hg2 hp2
      go_wp2_with fail
      refine bodyPost_ret (results_cell_row rfl _ _ (w.heap.size + 1) 25 #[.string x.op, .string x.name, .int .i64 x.num, .slice A x.kids.length c] (0, 0) _ rfl (HXB.out.br.set4 _ _ _ _) Tryd.underlying25 rfl (by kernel_rfl)) rfl ?_
      exact HXB.out.tell HP.out
    | some p =>
      obtain ⟨op, t2⟩ := p
      rw [htk] at HT
      rw [tookD_yes htk] at HR2
      have HR3 := Lib.hid (show (deeperF d t2 fun d => (parse nx lit k .assign d t2).bind fun y t => wantF nx sCl t fun t => (parse nx lit k .choice d t).bind fun z t => .ok (.mk sTern em 0 [x, y, z]) t) = r from HR2.out)
      clear HR2
      go_wp2_with fail
      refine HT.out.mono ?_
      rintro e w2 ⟨rfl, hg2, hp2⟩
      have HXB := Lib.hid (HXA.out.grown HP.out hg2 hp2)
      have yq := HXB.out.bp.c 0
      clear hg2 hp2 yp
      go_wp2_with fail
      have hlt := HP.out.lt
      have hI : ∀ b, (w.heap.size + 1 + 1 ≤ b ∧ b < w1.heap.size) → b < w2.heap.size ∧ b ≠ pb := fun b hb => ⟨by have := HXB.out.bx.lt; omega, by omega⟩
      have hn := HXB.out.n
      refine (deeper_calls (t := t2) (d := d) w2 (fun b => w.heap.size + 1 + 1 ≤ b ∧ b < w1.heap.size) hI 76 #[.pointer (some ⟨w.heap.size, 0, none⟩), .pointer (some ⟨w1.heap.size, 0, none⟩)] (fun d => (parse nx lit k .assign d t2).bind fun y t => wantF nx sCl t fun t => (parse nx lit k .choice d t).bind fun z t => .ok (.mk sTern em 0 [x, y, z]) t) HXB.out.p (enters_of Tryd.func76 (by kernel_rfl) rfl) (fun w4 hp4 hg4 => ?_)).mono ?_
      · have hs4 := hg4.size
        have hxl := HXB.out.bx.lt
        refine choice1_calls HX.out HN.out HI.out _ HIA.out HIH.out (d + 1) t2 w4 (fun b hb => ⟨by have := (hI b hb).1; omega, (hI b hb).2⟩) w1.heap.size w.heap.size x A c hp4 (HXB.out.bx.grown hg4 (by omega)) (HXB.out.bp.grown hg4 (by omega)) (by omega) (by omega) (HXB.out.s.move (fun b hb hl => hg4.block b hl (fun e => (hI b hb).2 (Option.some.inj e))) (fun b hb _ => hb)) ?_
        have h60 := hp4.d60
        have h3 := HR3.out
        rw [deeperF_at (by omega)] at h3
        rw [h3]
        exact HRO.out
      · intro e w3 hs
        rw [HR3.out] at hs
        clear hI hn hlt
        rcases TellsI.or hs with ⟨a, c2, h1, rfl, hg1⟩ | ⟨y, t3, A3, c3, h1, rfl, hS1, hp1, hg1⟩
        · have HE := Lib.hid (tells_faultr (d := d) (s := s) (bash := bash) h1 (grown_trans HXB.out.g hg1))
          clear hg1 hs h1
          go_wp2_with fail
          exact ⟨rfl, HE.out⟩
        · have HBR := Lib.hid (HXB.out.br.grown hg1 (by have := HP.out.lt; omega))
          obtain ⟨z0, z1, z2, z3, z4, z5, z6, z7⟩ := HBR.out.all
          have HE := Lib.hid (HXB.out.tellI HP.out hS1 hp1 hg1)
          have HH := Lib.hid h1
          clear hg1 hs h1 hS1 hp1
          go_wp2_with fail
          refine bodyPost_ret (results_cell_row rfl _ _ (w.heap.size + 1) 25 #[.string y.op, .string y.name, .int .i64 y.num, .slice A3 y.kids.length c3] (0, 0) _ rfl (HBR.out.set4 _ _ _ _) Tryd.underlying25 rfl (by kernel_rfl)) rfl ?_
          rw [HH.out]
          exact HE.out
end
end Go.Proofs.YtlbgnpllbogkeaaDoor.Ext

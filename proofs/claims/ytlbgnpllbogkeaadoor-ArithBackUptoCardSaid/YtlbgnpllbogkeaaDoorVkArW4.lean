/- Proved: arith's parser: assign's call by what is within it; its closure's. -/
import Derived.Test.YtlbgnpllbogkeaaDoorVkArW3
set_option linter.unusedVariables false
set_option linter.unusedSimpArgs false
namespace Go.Proofs.YtlbgnpllbogkeaaDoor.Ext
open Go.RowKit Go.Proofs.YtlbgnpllbogkeaaDoorW.PrintWords
theorem emp_true {s : ByteArray} (h : s.size = 0) : s.toList.isEmpty = true := by
  rw [Lib.toList_data, List.isEmpty_iff]
  exact List.eq_nil_of_length_eq_zero (by rw [← Lib.size_eq]; exact h)
theorem emp_false {s : ByteArray} (h : ¬ s.size = 0) : s.toList.isEmpty = false := by
  rw [Lib.toList_data]
  cases e : s.data.toList with
  | nil => exact absurd (by rw [Lib.size_eq, e]; rfl) h
  | cons b l => rfl
set_option maxHeartbeats 1000000 in
theorem variable_calls (x : E) (A : Option Addr) (n c : Nat) (w : World) : Calls Tryd.prog 55 #[.agg #[.string x.op, .string x.name, .int .i64 x.num, .slice A n c]] w fun e w' => e = .returned (.bool (isVar x)) ∧ Below w.heap.size w w' := by
  unfold isVar
  generalize x.op = o
  generalize x.name = m
  generalize x.num = q
  by_cases h1 : o.size = 0
  · have e1 := emp_true h1
    rw [show (o.size == 0) = true from beq_iff_eq.2 h1, Bool.true_and]
    by_cases h2 : m.size = 0
    · have e2 := emp_true h2
      rw [show (m.size == 0) = true from beq_iff_eq.2 h2]
      clear h1 h2
      go_enter Tryd.func55, Tryd.ntmps55
      go_wp2
      go_ret
      exact ⟨rfl, by first | exact Below.refl _ _ | exact (Below.refl _ _).alloc (Nat.le_refl _) _⟩
    · have e2 := emp_false h2
      rw [show (m.size == 0) = false from beq_eq_false_iff_ne.2 h2]
      clear h1 h2
      go_enter Tryd.func55, Tryd.ntmps55
      go_wp2
      go_ret
      exact ⟨rfl, by first | exact Below.refl _ _ | exact (Below.refl _ _).alloc (Nat.le_refl _) _⟩
  · have e1 := emp_false h1
    rw [show (o.size == 0) = false from beq_eq_false_iff_ne.2 h1, Bool.false_and]
    clear h1
    go_enter Tryd.func55, Tryd.ntmps55
    go_wp2
    go_ret
    exact ⟨rfl, by first | exact Below.refl _ _ | exact (Below.refl _ _).alloc (Nat.le_refl _) _⟩
section
variable {nx : Nat → Tok} {lit : ByteArray → Int} {pb : Nat} {s : ByteArray} {bash : Bool} {t : Tok} {d k : Nat}
set_option maxHeartbeats 4000000 in
/-- assign's closure. -/
theorem assign1_calls (I : Nat → Prop) (ih : PC nx lit pb s bash k .assign) (d : Nat) (t : Tok) (w : World) (hI : ∀ b, I b → b < w.heap.size ∧ b ≠ pb) (b0 b1 b2 : Nat) (op : ByteArray) (x : E) (A : Option Addr) (c : Nat) (h : PB w pb s bash t d) (h9 : Bk w b0 9 #[.string op]) (h1 : Bx w b1 #[.string x.op, .string x.name, .int .i64 x.num, .slice A x.kids.length c]) (h2 : Bk w b2 42 #[parserV pb]) (hn0 : b0 ≠ pb) (hn1 : b1 ≠ pb) (hn2 : b2 ≠ pb)
    (hx : SumR w I x [.string x.op, .string x.name, .int .i64 x.num, .slice A x.kids.length c]) (ho : ((parse nx lit k .assign d t).bind fun y t => .ok (bi op x y) t) ≠ .out) :
    Calls Tryd.prog 57 #[.pointer (some ⟨b0, 0, none⟩), .pointer (some ⟨b1, 0, none⟩), .pointer (some ⟨b2, 0, none⟩)] w (TellsI I pb s bash d w ((parse nx lit k .assign d t).bind fun y t => .ok (bi op x y) t)) := by
  have hba := (Below.refl _ w).alloc (Nat.le_refl _) (.cells #[.string ⟨#[]⟩, .string ⟨#[]⟩, .int .i64 0, .slice none 0 0] 25)
  obtain ⟨w0, hw0⟩ : ∃ w0, w0 = w.alloc (.cells #[.string ⟨#[]⟩, .string ⟨#[]⟩, .int .i64 0, .slice none 0 0] 25) := ⟨_, rfl⟩
  have hB0 := Bx.new w #[.string ⟨#[]⟩, .string ⟨#[]⟩, .int .i64 0, .slice none 0 0]
  have hs0 : w0.heap.size = w.heap.size + 1 := by rw [hw0]; simp
  rw [← hw0] at hba hB0
  have HW0 := Lib.hid hw0
  have HS0 := Lib.hid hs0
  have HP := Lib.hid h
  have HB1 := Lib.hid (h1.bel hba)
  have HB2 := Lib.hid (h2.bel hba)
  have HB9 := Lib.hid (h9.bel hba)
  have HB0 := Lib.hid hB0
  have HG0 := Lib.hid (grown_of_below hba (some pb))
  have HXS := Lib.hid hx
  have HII := Lib.hid hI
  have hne : parse nx lit k .assign d t ≠ .out := fun e => ho (by rw [e]; rfl)
  have HCL := Lib.hid (fun W (hW : Below w0.heap.size w0 W) => show Calls Tryd.prog 33 #[parserV pb] W (Tells pb s bash d W (parse nx lit k .assign d t)) from ih d t W ((h.bel hba).bel hW) hne)
  obtain ⟨r, hr⟩ : ∃ r, ((parse nx lit k .assign d t).bind fun y t => .ok (bi op x y) t) = r := ⟨_, rfl⟩
  rw [hr] at ho ⊢
  have HR := Lib.hid hr
  have mixed : Tryd.prog.follows Departure.mixedOrders = true := by kernel_rfl
  clear hw0 hs0 h h1 h2 h9 hB0 hx hI hne ih hr ho hba
  go_enter Tryd.func57, Tryd.ntmps57
  go_wp2_with fail
  rw [← HW0.out]
  obtain ⟨q0, q1, q2, q3, q4, q5, q6, q7⟩ := HB1.out.all
  have y2 := HB2.out.c 0
  have y9 := HB9.out.c 0
  go_region_law (first | (go_simp; go_at_call 33; (with_reducible refine (HCL.out _ (by first | exact Below.refl _ _ | exact (Below.refl _ _).drew)).mono ?_); intro e w3 hs; rcases Tells.or hs with ⟨a, c2, h1, rfl, hg3⟩ | ⟨y, t2, A3, c3, h1, rfl, hS3, hp3, hg3⟩; exact ⟨rfl, TellsI.faultr h1 HR.out (grown_trans HG0.out (first_grown hg3))⟩; obtain ⟨r0, r1, r2, r3, r4, r5, r6, r7⟩ := (HB1.out.grown (first_grown hg3) hn1).all; have r9 := (HB9.out.grown (first_grown hg3) hn0).c 0; have r99 := ((HB9.out.grown (first_grown hg3) hn0).bel ((Below.refl _ w3).alloc (Nat.le_refl _) (.cells #[.string x.op, .string x.name, .int .i64 x.num, .slice A x.kids.length c, .string y.op, .string y.name, .int .i64 y.num, .slice A3 y.kids.length c3] 25))).c 0; dsimp only) | (go_simp; go_at_call 53; (with_reducible refine (of_calls _ _ _ _ _).mono ?_); rintro e w5 ⟨rfl, hb5⟩; obtain ⟨v0, v1, v2, v3, v4, v5, v6, v7⟩ := (((end_box HP.out (Nat.le_refl _) (HB0.out) (first_grown hg3)).bel ((Below.refl _ w3).alloc (Nat.le_refl _) _)).bel hb5).all; dsimp only))
  all_goals (
    have HV := Lib.hid (((end_box HP.out (Nat.le_refl _) (HB0.out) (first_grown hg3)).bel ((Below.refl _ w3).alloc (Nat.le_refl _) _)).bel hb5)
    have hr := HR.out
    rw [h1] at hr
    have HE := Lib.hid (two_fin op HII.out HP.out HXS.out HG0.out (Nat.le_of_eq HS0.out.symm) (first_grown hg3) hS3 hp3 hb5 (grown_box4 (.string op) (.string em) (.int .i64 0) (.slice (some ⟨w3.heap.size, 0, none⟩) 2 2)))
    have HRR := Lib.hid (show Rs.ok (bi op x y) t2 = r from hr)
    clear q0 q1 q2 q3 q4 q5 q6 q7 r0 r1 r2 r3 r4 r5 r6 r7 v0 v1 v2 v3 v4 v5 v6 v7 hr h1 hS3 hp3 hg3 hb5 hs
    go_wp2_with fail
    refine bodyPost_ret (results_cell_row rfl _ _ w.heap.size 25 #[.string op, .string em, .int .i64 0, .slice (some ⟨w3.heap.size, 0, none⟩) 2 2] (0, 0) _ rfl (HV.out.set4 _ _ _ _) Tryd.underlying25 rfl (by kernel_rfl)) rfl ?_
    rw [← HRR.out]
    exact HE.out)
theorem set_assigns : SetOf ⟨#[61, 32, 42, 61, 32, 47, 61, 32, 37, 61, 32, 43, 61, 32, 45, 61, 32, 60, 60, 61, 32, 62, 62, 61, 32, 38, 61, 32, 94, 61, 32, 124, 61]⟩ assignsL := ⟨by decide, by decide, by decide, by decide, by decide⟩
set_option maxHeartbeats 4000000 in
theorem assign_calls (hx : Nx nx s.size) (hn : NextC nx pb s bash) (hi : InC) (ihu : PC nx lit pb s bash k .choice) (ih : PC nx lit pb s bash k .assign) : PC nx lit pb s bash (k + 1) .assign := by
  intro d t w h hro
  rw [parse] at hro ⊢
  have HAT := Lib.hid (p_start w h)
  obtain ⟨w0, hw0⟩ : ∃ w0, w0 = (w.alloc (.cells #[parserV pb] 42)).alloc (.cells #[.string ⟨#[]⟩, .string ⟨#[]⟩, .int .i64 0, .slice none 0 0] 25) := ⟨_, rfl⟩
  rw [show (w.alloc (.cells #[parserV pb] 42)).alloc zeroO = w0 from hw0.symm] at HAT
  have HW0 := Lib.hid hw0
  have HP := Lib.hid h
  have hne : parse nx lit k .choice d t ≠ .out := fun e => hro (by rw [e]; rfl)
  have yp := HAT.out.bp.c 0
  rw [hw0] at yp
  have HCL := Lib.hid (show Calls Tryd.prog 54 #[parserV pb] w0 (Tells pb s bash d w0 (parse nx lit k .choice d t)) from ihu d t w0 HAT.out.p hne)
  obtain ⟨r, hr⟩ : ∃ r, ((parse nx lit k .choice d t).bind fun x t => if isVar x = true then tookD nx assignsL t (.ok x t) fun op t =>
      deeperF d t fun d => (parse nx lit k .assign d t).bind fun y t => .ok (bi op x y) t else .ok x t) = r := ⟨_, rfl⟩
  rw [hr] at hro ⊢
  have HR := Lib.hid hr
  have HRO := Lib.hid hro
  have HX := Lib.hid hx
  have HN := Lib.hid hn
  have HI := Lib.hid hi
  have HIH := Lib.hid ih
  clear hw0 h hne hr hro hx hn hi ih ihu
  show Calls Tryd.prog 33 #[parserV pb] w _
  go_enter Tryd.func33, Tryd.ntmps33
  go_wp2_with fail
  rw [← HW0.out]
  clear yp
  refine HCL.out.mono ?_
  intro e w1 hs
  rcases Tells.or hs with ⟨a, c, h1, rfl, hg1⟩ | ⟨x, t1, A, c, h1, rfl, hS1, hp1, hg1⟩
  · have HE := Lib.hid (tells_fault (d := d) (s := s) (bash := bash) h1 HR.out (grown_trans HAT.out.g hg1))
    clear hg1 hs h1
    go_wp2_with fail
    exact ⟨rfl, HE.out⟩
  · have HXA := Lib.hid (x_start HP.out HAT.out hS1 hp1 hg1)
    have hr := HR.out
    rw [h1] at hr
    have HR2 := Lib.hid (show (if isVar x = true then tookD nx assignsL t1 (.ok x t1) fun op t => deeperF d t fun d => (parse nx lit k .assign d t).bind fun y t => .ok (bi op x y) t else .ok x t1) = r from hr)
    obtain ⟨q0, q1, q2, q3, q4, q5, q6, q7⟩ := HXA.out.bx.all
    have HVC := Lib.hid (variable_calls x A x.kids.length c)
    clear hr h1 hS1 hp1 hg1 hs HR HCL
    go_wp2_with fail
    refine (HVC.out _).mono ?_
    rintro e w2 ⟨rfl, hb2⟩
    have HXB := Lib.hid (HXA.out.bel hb2)
    clear hb2 q0 q1 q2 q3 q4 q5 q6 q7 HVC
    cases hv : isVar x with
    | false =>
      rw [hv, if_neg (by decide)] at HR2
      obtain rfl : Rs.ok x t1 = r := HR2.out
      obtain ⟨q0, q1, q2, q3, q4, q5, q6, q7⟩ := HXB.out.bx.all
      obtain ⟨z0, z1, z2, z3, z4, z5, z6, z7⟩ := HXB.out.br.all
      go_wp2_with fail
      refine bodyPost_ret (results_cell_row rfl _ _ (w.heap.size + 1) 25 #[.string x.op, .string x.name, .int .i64 x.num, .slice A x.kids.length c] (0, 0) _ rfl (HXB.out.br.set4 _ _ _ _) Tryd.underlying25 rfl (by kernel_rfl)) rfl ?_
      exact HXB.out.tell HP.out
    | true =>
      rw [hv, if_pos rfl] at HR2
      have yp := HXB.out.bp.c 0
      have HT := Lib.hid (took_calls HX.out HN.out HI.out ⟨#[61, 32, 42, 61, 32, 47, 61, 32, 37, 61, 32, 43, 61, 32, 45, 61, 32, 60, 60, 61, 32, 62, 62, 61, 32, 38, 61, 32, 94, 61, 32, 124, 61]⟩ assignsL set_assigns _ HXB.out.p)
      cases htk : tookF nx assignsL t1 with
      | none =>
        rw [htk] at HT
        rw [tookD_no htk] at HR2
        obtain rfl : Rs.ok x t1 = r := HR2.out
        go_wp2_with fail
        refine HT.out.mono ?_
        rintro e w3 ⟨rfl, hg2, hp2⟩
        have HXC := Lib.hid ((HXB.out.grown HP.out hg2 hp2).bel ((Below.refl _ w3).alloc (Nat.le_refl _) (.cells #[.string ⟨#[]⟩] 9)))
        obtain ⟨q0, q1, q2, q3, q4, q5, q6, q7⟩ := HXC.out.bx.all
        obtain ⟨z0, z1, z2, z3, z4, z5, z6, z7⟩ := HXC.out.br.all
        clear hg2 hp2
        go_wp2_with fail
        refine bodyPost_ret (results_cell_row rfl _ _ (w.heap.size + 1) 25 #[.string x.op, .string x.name, .int .i64 x.num, .slice A x.kids.length c] (0, 0) _ rfl (HXC.out.br.set4 _ _ _ _) Tryd.underlying25 rfl (by kernel_rfl)) rfl ?_
        exact HXC.out.tell HP.out
      | some p =>
        obtain ⟨op, t2⟩ := p
        rw [htk] at HT
        rw [tookD_yes htk] at HR2
        have HR3 := Lib.hid (show (deeperF d t2 fun d => (parse nx lit k .assign d t2).bind fun y t => .ok (bi op x y) t) = r from HR2.out)
        clear HR2
        go_wp2_with fail
        refine HT.out.mono ?_
        rintro e w3 ⟨rfl, hg2, hp2⟩
        have HXC := Lib.hid ((HXB.out.grown HP.out hg2 hp2).bel ((Below.refl _ w3).alloc (Nat.le_refl _) (.cells #[.string op] 9)))
        have HOB := Lib.hid (Bk.new w3 9 #[.string op])
        have HX3 := Lib.hid (HXB.out.grown HP.out hg2 hp2)
        have yq := HXC.out.bp.c 0
        clear hg2 hp2 yp
        go_wp2_with fail
        have hlt := HP.out.lt
        have hw4 : (w3.alloc (.cells #[.string op] 9)).heap.size = w3.heap.size + 1 := by simp
        have hn := HX3.out.n
        have hxl := HX3.out.bx.lt
        have hI : ∀ b, (w.heap.size + 1 + 1 ≤ b ∧ b < w1.heap.size) → b < (w3.alloc (.cells #[.string op] 9)).heap.size ∧ b ≠ pb := fun b hb => ⟨by omega, by omega⟩
        refine (deeper_calls (t := t2) (d := d) (w3.alloc (.cells #[.string op] 9)) (fun b => w.heap.size + 1 + 1 ≤ b ∧ b < w1.heap.size) hI 57 #[.pointer (some ⟨w3.heap.size, 0, none⟩), .pointer (some ⟨w1.heap.size, 0, none⟩), .pointer (some ⟨w.heap.size, 0, none⟩)] (fun d => (parse nx lit k .assign d t2).bind fun y t => .ok (bi op x y) t) HXC.out.p (enters_of Tryd.func57 (by kernel_rfl) rfl) (fun w4 hp4 hg4 => ?_)).mono ?_
        · have hs4 := hg4.size
          refine assign1_calls _ HIH.out (d + 1) t2 w4 (fun b hb => ⟨by have := (hI b hb).1; omega, (hI b hb).2⟩) w3.heap.size w1.heap.size w.heap.size op x A c hp4 (HOB.out.grown hg4 (by omega)) (HXC.out.bx.grown hg4 (by omega)) (HXC.out.bp.grown hg4 (by omega)) (by omega) (by omega) (by omega) (HXC.out.s.move (fun b hb hl => hg4.block b hl (fun e => (hI b hb).2 (Option.some.inj e))) (fun b hb _ => hb)) ?_
          have h60 := hp4.d60
          have h3 := HR3.out
          rw [deeperF_at (by omega)] at h3
          rw [h3]
          exact HRO.out
        · intro e w4 hs
          rw [HR3.out] at hs
          clear hI hn hlt hxl hw4
          rcases TellsI.or hs with ⟨a, c2, h1, rfl, hg1⟩ | ⟨y, t3, A3, c3, h1, rfl, hS1, hp1, hg1⟩
          · have HE := Lib.hid (tells_faultr (d := d) (s := s) (bash := bash) h1 (grown_trans HXC.out.g hg1))
            clear hg1 hs h1
            go_wp2_with fail
            exact ⟨rfl, HE.out⟩
          · have HBR := Lib.hid (HXC.out.br.grown hg1 (by have := HP.out.lt; omega))
            obtain ⟨z0, z1, z2, z3, z4, z5, z6, z7⟩ := HBR.out.all
            have HE := Lib.hid (HXC.out.tellI HP.out hS1 hp1 hg1)
            have HH := Lib.hid h1
            clear hg1 hs h1 hS1 hp1
            go_wp2_with fail
            refine bodyPost_ret (results_cell_row rfl _ _ (w.heap.size + 1) 25 #[.string y.op, .string y.name, .int .i64 y.num, .slice A3 y.kids.length c3] (0, 0) _ rfl (HBR.out.set4 _ _ _ _) Tryd.underlying25 rfl (by kernel_rfl)) rfl ?_
            rw [HH.out]
            exact HE.out
end
end Go.Proofs.YtlbgnpllbogkeaaDoor.Ext

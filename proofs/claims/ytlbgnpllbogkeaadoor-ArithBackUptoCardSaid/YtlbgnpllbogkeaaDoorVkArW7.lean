/- Proved: arith's parser: unary's call by what is within it; its closure's. Proved: arith's parser: post's call by what is within it; literal's. -/
import Derived.Test.YtlbgnpllbogkeaaDoorVkArW3
section
set_option linter.unusedVariables false
set_option linter.unusedSimpArgs false
namespace Go.Proofs.YtlbgnpllbogkeaaDoor.Ext
open Go.RowKit Go.Proofs.YtlbgnpllbogkeaaDoorW.PrintWords
theorem one_made {w9 : World} {ok : Nat → Prop} {x : E} {A : Option Addr} {c g : Nat} (op : ByteArray) (hx : SumR w9 ok x [.string x.op, .string x.name, .int .i64 x.num, .slice A x.kids.length c])
    (hb : w9.heap[g]? = some (.cells #[.string x.op, .string x.name, .int .i64 x.num, .slice A x.kids.length c] 25 (0, 0))) (ho : ok g) : SumR w9 ok (un op x) [.string op, .string em, .int .i64 0, .slice (some ⟨g, 0, none⟩) 1 1] := by
  refine SumR.made (kids := [x]) (css := [[.string x.op, .string x.name, .int .i64 x.num, .slice A x.kids.length c]]) op em 0 1 rfl (Nat.le_refl _) (by simp) (fun j k cs hk hcs => ?_) hb ho
  cases j with
  | zero =>
    obtain rfl : x = k := Option.some.inj hk
    obtain rfl := Option.some.inj hcs
    exact hx
  | succ j => simp at hk
/-- The end of a reading of one within an operator. -/
theorem one_fin {w w0 w3 w5 w9 : World} {pb : Nat} {s : ByteArray} {bash : Bool} {t0 t2 : Tok} {d d0 : Nat} {x : E} {A : Option Addr} {c : Nat} (op : ByteArray) (h0 : PB w pb s bash t0 d0) (hg0 : w.grownBy w0 (some pb)) (hlt : w.heap.size + 1 ≤ w0.heap.size) (hg3 : w0.grownBy w3 (some pb))
    (hS3 : SumR w3 (w0.heap.size ≤ ·) x [.string x.op, .string x.name, .int .i64 x.num, .slice A x.kids.length c]) (hp3 : PB w3 pb s bash t2 d) (hb5 : Below (w3.alloc (oneO x A c)).heap.size (w3.alloc (oneO x A c)) w5) (hg9 : w5.grownBy w9 (some w.heap.size)) :
    Tells pb s bash d w (.ok (un op x) t2) (.returned (.agg #[.string op, .string em, .int .i64 0, .slice (some ⟨w3.heap.size, 0, none⟩) 1 1])) w9 := by
  have hba := (Below.refl _ w3).alloc (Nat.le_refl _) (oneO x A c)
  have hlp := h0.lt
  have hs3 := hg3.size
  have hk5 : w5.heap[w3.heap.size]? = some (.cells #[.string x.op, .string x.name, .int .i64 x.num, .slice A x.kids.length c] 25 (0, 0)) := (hb5.block _ (by simp)).trans (heap_alloc_new w3 _)
  have hx5 : SumR w5 (w.heap.size + 1 ≤ ·) x [.string x.op, .string x.name, .int .i64 x.num, .slice A x.kids.length c] := ((hS3.bel hba).bel hb5).least hlt
  exact tells_fin (Nat.le_refl _) h0 (grown_trans (grown_trans (grown_trans hg0 hg3) (grown_of_below hba _)) (grown_of_below hb5 _)) (one_made op hx5 hk5 (by omega)) ((hp3.bel hba).bel hb5) hg9
theorem set_unary : SetOf ⟨#[33, 32, 126, 32, 45, 32, 43, 32, 43, 43, 32, 45, 45]⟩ unaryL := ⟨by decide, by decide, by decide, by decide, by decide⟩
section
variable {nx : Nat → Tok} {lit : ByteArray → Int} {pb : Nat} {s : ByteArray} {bash : Bool} {t : Tok} {d k : Nat}
/-- What unary's closure knows behind its operator. -/
structure UAt (w : World) (pb : Nat) (s : ByteArray) (bash : Bool) (t : Tok) (d b2 : Nat) (w1 : World) : Prop where
  p : PB w1 pb s bash t d
  g : w.grownBy w1 (some pb)
  b2 : Bk w1 b2 42 #[parserV pb]
  br : Bx w1 w.heap.size #[.string ⟨#[]⟩, .string ⟨#[]⟩, .int .i64 0, .slice none 0 0]
abbrev unF (nx : Nat → Tok) (lit : ByteArray → Int) (k d : Nat) (t : Tok) : Rs := tookD nx unaryL t (parse nx lit k .post d t) fun op t =>
      if op = sPlus then parse nx lit k .unary d t
        else if op = sMinus then (parse nx lit k .unary d t).bind fun x t => .ok (un sNeg x) t
        else if op = sInc ∨ op = sDec then (if t.kind = 2 then .ok (un (sPre ++ op) (varE t.text)) (nx t.to_) else .fault t.pos 33)
        else (parse nx lit k .unary d t).bind fun x t => .ok (un op x) t
set_option maxHeartbeats 8000000 in
/-- unary's closure. -/
theorem unary1_calls (hx : Nx nx s.size) (hn : NextC nx pb s bash) (hi : InC) (ihp : PC nx lit pb s bash k .post) (ihu : PC nx lit pb s bash k .unary) (d : Nat) (t : Tok) (w : World) (b2 : Nat) (h : PB w pb s bash t d) (h2 : Bk w b2 42 #[parserV pb]) (hn2 : b2 ≠ pb) (ho : unF nx lit k d t ≠ .out) :
    Calls Tryd.prog 92 #[.pointer (some ⟨b2, 0, none⟩)] w (Tells pb s bash d w (unF nx lit k d t)) := by
  have hba := (Below.refl _ w).alloc (Nat.le_refl _) (.cells #[.string ⟨#[]⟩, .string ⟨#[]⟩, .int .i64 0, .slice none 0 0] 25)
  have yp := (h2.bel hba).c 0
  have HP := Lib.hid h
  have HUA := Lib.hid (show UAt w pb s bash t d b2 (w.alloc (.cells #[.string ⟨#[]⟩, .string ⟨#[]⟩, .int .i64 0, .slice none 0 0] 25)) from ⟨h.bel hba, grown_of_below hba _, h2.bel hba, Bx.new w _⟩)
  have HT := Lib.hid (took_calls hx hn hi ⟨#[33, 32, 126, 32, 45, 32, 43, 32, 43, 43, 32, 45, 45]⟩ unaryL set_unary _ HUA.out.p)
  have HX := Lib.hid hx
  have HN := Lib.hid hn
  have HIP := Lib.hid ihp
  have HIU := Lib.hid ihu
  have HN2 := Lib.hid hn2
  have hs0 : (w.alloc (.cells #[.string ⟨#[]⟩, .string ⟨#[]⟩, .int .i64 0, .slice none 0 0] 25)).heap.size = w.heap.size + 1 := by simp
  have HS0 := Lib.hid hs0
  clear hba h h2 hx hn hi ihp ihu hs0 hn2
  cases htk : tookF nx unaryL t with
  | none =>
    rw [htk] at HT
    unfold unF at ho ⊢
    rw [tookD_no htk] at ho ⊢
    obtain ⟨r, hr⟩ : ∃ r, parse nx lit k .post d t = r := ⟨_, rfl⟩
    rw [hr] at ho ⊢
    have HR := Lib.hid hr
    have HO := Lib.hid ho
    clear hr ho htk
    go_enter Tryd.func92, Tryd.ntmps92
    go_wp2_with fail
    refine HT.out.mono ?_
    rintro e w1 ⟨rfl, hg1, hp1⟩
    have HU1 := Lib.hid (show UAt w pb s bash t d b2 w1 from ⟨hp1, grown_trans HUA.out.g hg1, HUA.out.b2.grown hg1 HN2.out, HUA.out.br.grown hg1 (Ne.symm (Nat.ne_of_lt HP.out.lt))⟩)
    have HSZ := Lib.hid (show w.heap.size + 1 ≤ w1.heap.size by have h1 := hg1.size; have h2 := HS0.out; omega)
    have yq := HU1.out.b2.c 0
    have HCL := Lib.hid (show Calls Tryd.prog 93 #[parserV pb] w1 (Tells pb s bash d w1 (parse nx lit k .post d t)) from HIP.out d t w1 HU1.out.p (by rw [HR.out]; exact HO.out))
    rw [HR.out] at HCL
    clear hg1 hp1 yp
    go_wp2_with fail
    refine HCL.out.mono ?_
    intro e w2 hs
    rcases Tells.or hs with ⟨a, c, h1, rfl, hg2⟩ | ⟨x, t2, A, c, h1, rfl, hS2, hp2, hg2⟩
    · have HE := Lib.hid (tells_faultr (d := d) (s := s) (bash := bash) h1 (grown_trans HU1.out.g hg2))
      clear hg2 hs h1
      go_wp2_with fail
      exact ⟨rfl, HE.out⟩
    · have hb2 := end_box HP.out (Nat.le_refl _) HU1.out.br hg2
      obtain ⟨z0, z1, z2, z3, z4, z5, z6, z7⟩ := hb2.all
      have HB2 := Lib.hid hb2
      have HE := Lib.hid (end_tells HP.out HU1.out.g (Nat.le_refl _) HSZ.out hS2 hp2 hg2)
      have HH := Lib.hid h1
      clear hg2 hs hp2 hS2 hb2 h1
      go_wp2_with fail
      refine bodyPost_ret (results_cell_row rfl _ _ w.heap.size 25 #[.string x.op, .string x.name, .int .i64 x.num, .slice A x.kids.length c] (0, 0) _ rfl (HB2.out.set4 _ _ _ _) Tryd.underlying25 rfl (by kernel_rfl)) rfl ?_
      rw [HH.out]
      exact HE.out
  | some p =>
    obtain ⟨op, t1⟩ := p
    have hmem : op ∈ unaryL := by
      unfold tookF at htk
      split at htk
      · rename_i hc
        injection htk with htk
        injection htk with h1 _
        rw [← h1]
        exact inL_iff.1 hc.2
      · cases htk
    rw [htk] at HT
    unfold unF at ho ⊢
    rw [tookD_yes htk] at ho ⊢
    have HO := Lib.hid ho
    clear htk ho
    have hcases : op = ⟨#[33]⟩ ∨ op = ⟨#[126]⟩ ∨ op = ⟨#[45]⟩ ∨ op = ⟨#[43]⟩ ∨ op = ⟨#[43, 43]⟩ ∨ op = ⟨#[45, 45]⟩ := by simpa [unaryL] using hmem
    clear hmem
    rcases hcases with rfl | rfl | rfl | rfl | rfl | rfl
    · rw [if_neg (by decide), if_neg (by decide), if_neg (by decide)] at HO ⊢
      obtain ⟨r, hr⟩ : ∃ r, ((parse nx lit k .unary d t1).bind fun x t => .ok (un ⟨#[33]⟩ x) t) = r := ⟨_, rfl⟩
      rw [hr] at HO ⊢
      have HR := Lib.hid hr
      have hne : parse nx lit k .unary d t1 ≠ .out := fun e => HO.out (by rw [← hr, e]; rfl)
      have HNE := Lib.hid hne
      clear hr hne
      go_enter Tryd.func92, Tryd.ntmps92
      go_wp2_with fail
      refine HT.out.mono ?_
      rintro e w1 ⟨rfl, hg1, hp1⟩
      have HU1 := Lib.hid (show UAt w pb s bash t1 d b2 w1 from ⟨hp1, grown_trans HUA.out.g hg1, HUA.out.b2.grown hg1 HN2.out, HUA.out.br.grown hg1 (Ne.symm (Nat.ne_of_lt HP.out.lt))⟩)
      have HSZ := Lib.hid (show w.heap.size + 1 ≤ w1.heap.size by have h1 := hg1.size; have h2 := HS0.out; omega)
      have yq := HU1.out.b2.c 0
      clear hg1 hp1 yp
      have HCL := Lib.hid (show Calls Tryd.prog 90 #[parserV pb] w1 (Tells pb s bash d w1 (parse nx lit k .unary d t1)) from HIU.out d t1 w1 HU1.out.p HNE.out)
      go_wp2_with fail
      refine HCL.out.mono ?_
      intro e w2 hs
      rcases Tells.or hs with ⟨a, c, h1, rfl, hg2⟩ | ⟨x, t2, A, c, h1, rfl, hS2, hp2, hg2⟩
      · have HE := Lib.hid (tells_fault (d := d) (s := s) (bash := bash) h1 HR.out (grown_trans HU1.out.g hg2))
        clear hg2 hs h1
        go_wp2_with fail
        exact ⟨rfl, HE.out⟩
      · have hbo := (Below.refl _ w2).alloc (Nat.le_refl _) (oneO x A c)
        have HB2 := Lib.hid ((end_box HP.out (Nat.le_refl _) HU1.out.br hg2).bel hbo)
        have hr := HR.out
        rw [h1] at hr
        have HRR := Lib.hid (show Rs.ok (un ⟨#[33]⟩ x) t2 = r from hr)
        have HS2 := Lib.hid hS2
        have HP2 := Lib.hid hp2
        have HG2 := Lib.hid hg2
        clear hr h1 hS2 hp2 hg2 hs hbo
        go_wp2_with fail
        refine (of_calls _ _ _ _ _).mono ?_
        rintro e w5 ⟨rfl, hb5⟩
        have hbv := HB2.out.bel hb5
        obtain ⟨z0, z1, z2, z3, z4, z5, z6, z7⟩ := hbv.all
        have HBV := Lib.hid hbv
        have HE := Lib.hid (one_fin ⟨#[33]⟩ HP.out HU1.out.g HSZ.out HG2.out HS2.out HP2.out hb5 (grown_box4 (.string ⟨#[33]⟩) (.string em) (.int .i64 0) (.slice (some ⟨w2.heap.size, 0, none⟩) 1 1)))
        clear hb5 hbv
        go_wp2_with fail
        refine bodyPost_ret (results_cell_row rfl _ _ w.heap.size 25 #[.string ⟨#[33]⟩, .string em, .int .i64 0, .slice (some ⟨w2.heap.size, 0, none⟩) 1 1] (0, 0) _ rfl (HBV.out.set4 _ _ _ _) Tryd.underlying25 rfl (by kernel_rfl)) rfl ?_
        rw [← HRR.out]
        exact HE.out
    · rw [if_neg (by decide), if_neg (by decide), if_neg (by decide)] at HO ⊢
      obtain ⟨r, hr⟩ : ∃ r, ((parse nx lit k .unary d t1).bind fun x t => .ok (un ⟨#[126]⟩ x) t) = r := ⟨_, rfl⟩
      rw [hr] at HO ⊢
      have HR := Lib.hid hr
      have hne : parse nx lit k .unary d t1 ≠ .out := fun e => HO.out (by rw [← hr, e]; rfl)
      have HNE := Lib.hid hne
      clear hr hne
      go_enter Tryd.func92, Tryd.ntmps92
      go_wp2_with fail
      refine HT.out.mono ?_
      rintro e w1 ⟨rfl, hg1, hp1⟩
      have HU1 := Lib.hid (show UAt w pb s bash t1 d b2 w1 from ⟨hp1, grown_trans HUA.out.g hg1, HUA.out.b2.grown hg1 HN2.out, HUA.out.br.grown hg1 (Ne.symm (Nat.ne_of_lt HP.out.lt))⟩)
      have HSZ := Lib.hid (show w.heap.size + 1 ≤ w1.heap.size by have h1 := hg1.size; have h2 := HS0.out; omega)
      have yq := HU1.out.b2.c 0
      clear hg1 hp1 yp
      have HCL := Lib.hid (show Calls Tryd.prog 90 #[parserV pb] w1 (Tells pb s bash d w1 (parse nx lit k .unary d t1)) from HIU.out d t1 w1 HU1.out.p HNE.out)
      go_wp2_with fail
      refine HCL.out.mono ?_
      intro e w2 hs
      rcases Tells.or hs with ⟨a, c, h1, rfl, hg2⟩ | ⟨x, t2, A, c, h1, rfl, hS2, hp2, hg2⟩
      · have HE := Lib.hid (tells_fault (d := d) (s := s) (bash := bash) h1 HR.out (grown_trans HU1.out.g hg2))
        clear hg2 hs h1
        go_wp2_with fail
        exact ⟨rfl, HE.out⟩
      · have hbo := (Below.refl _ w2).alloc (Nat.le_refl _) (oneO x A c)
        have HB2 := Lib.hid ((end_box HP.out (Nat.le_refl _) HU1.out.br hg2).bel hbo)
        have hr := HR.out
        rw [h1] at hr
        have HRR := Lib.hid (show Rs.ok (un ⟨#[126]⟩ x) t2 = r from hr)
        have HS2 := Lib.hid hS2
        have HP2 := Lib.hid hp2
        have HG2 := Lib.hid hg2
        clear hr h1 hS2 hp2 hg2 hs hbo
        go_wp2_with fail
        refine (of_calls _ _ _ _ _).mono ?_
        rintro e w5 ⟨rfl, hb5⟩
        have hbv := HB2.out.bel hb5
        obtain ⟨z0, z1, z2, z3, z4, z5, z6, z7⟩ := hbv.all
        have HBV := Lib.hid hbv
        have HE := Lib.hid (one_fin ⟨#[126]⟩ HP.out HU1.out.g HSZ.out HG2.out HS2.out HP2.out hb5 (grown_box4 (.string ⟨#[126]⟩) (.string em) (.int .i64 0) (.slice (some ⟨w2.heap.size, 0, none⟩) 1 1)))
        clear hb5 hbv
        go_wp2_with fail
        refine bodyPost_ret (results_cell_row rfl _ _ w.heap.size 25 #[.string ⟨#[126]⟩, .string em, .int .i64 0, .slice (some ⟨w2.heap.size, 0, none⟩) 1 1] (0, 0) _ rfl (HBV.out.set4 _ _ _ _) Tryd.underlying25 rfl (by kernel_rfl)) rfl ?_
        rw [← HRR.out]
        exact HE.out
    · rw [if_neg (by decide), if_pos rfl] at HO ⊢
      obtain ⟨r, hr⟩ : ∃ r, ((parse nx lit k .unary d t1).bind fun x t => .ok (un sNeg x) t) = r := ⟨_, rfl⟩
      rw [hr] at HO ⊢
      have HR := Lib.hid hr
      have hne : parse nx lit k .unary d t1 ≠ .out := fun e => HO.out (by rw [← hr, e]; rfl)
      have HNE := Lib.hid hne
      clear hr hne
      go_enter Tryd.func92, Tryd.ntmps92
      go_wp2_with fail
      refine HT.out.mono ?_
      rintro e w1 ⟨rfl, hg1, hp1⟩
      have HU1 := Lib.hid (show UAt w pb s bash t1 d b2 w1 from ⟨hp1, grown_trans HUA.out.g hg1, HUA.out.b2.grown hg1 HN2.out, HUA.out.br.grown hg1 (Ne.symm (Nat.ne_of_lt HP.out.lt))⟩)
      have HSZ := Lib.hid (show w.heap.size + 1 ≤ w1.heap.size by have h1 := hg1.size; have h2 := HS0.out; omega)
      have yq := HU1.out.b2.c 0
      clear hg1 hp1 yp
      have HCL := Lib.hid (show Calls Tryd.prog 90 #[parserV pb] w1 (Tells pb s bash d w1 (parse nx lit k .unary d t1)) from HIU.out d t1 w1 HU1.out.p HNE.out)
      go_wp2_with fail
      refine HCL.out.mono ?_
      intro e w2 hs
      rcases Tells.or hs with ⟨a, c, h1, rfl, hg2⟩ | ⟨x, t2, A, c, h1, rfl, hS2, hp2, hg2⟩
      · have HE := Lib.hid (tells_fault (d := d) (s := s) (bash := bash) h1 HR.out (grown_trans HU1.out.g hg2))
        clear hg2 hs h1
        go_wp2_with fail
        exact ⟨rfl, HE.out⟩
      · have hbo := (Below.refl _ w2).alloc (Nat.le_refl _) (oneO x A c)
        have HB2 := Lib.hid ((end_box HP.out (Nat.le_refl _) HU1.out.br hg2).bel hbo)
        have hr := HR.out
        rw [h1] at hr
        have HRR := Lib.hid (show Rs.ok (un sNeg x) t2 = r from hr)
        have HS2 := Lib.hid hS2
        have HP2 := Lib.hid hp2
        have HG2 := Lib.hid hg2
        clear hr h1 hS2 hp2 hg2 hs hbo
        go_wp2_with fail
        refine (of_calls _ _ _ _ _).mono ?_
        rintro e w5 ⟨rfl, hb5⟩
        have hbv := HB2.out.bel hb5
        obtain ⟨z0, z1, z2, z3, z4, z5, z6, z7⟩ := hbv.all
        have HBV := Lib.hid hbv
        have HE := Lib.hid (one_fin sNeg HP.out HU1.out.g HSZ.out HG2.out HS2.out HP2.out hb5 (grown_box4 (.string sNeg) (.string em) (.int .i64 0) (.slice (some ⟨w2.heap.size, 0, none⟩) 1 1)))
        clear hb5 hbv
        go_wp2_with fail
        refine bodyPost_ret (results_cell_row rfl _ _ w.heap.size 25 #[.string sNeg, .string em, .int .i64 0, .slice (some ⟨w2.heap.size, 0, none⟩) 1 1] (0, 0) _ rfl (HBV.out.set4 _ _ _ _) Tryd.underlying25 rfl (by kernel_rfl)) rfl ?_
        rw [← HRR.out]
        exact HE.out
    · rw [if_pos rfl] at HO ⊢
      obtain ⟨r, hr⟩ : ∃ r, parse nx lit k .unary d t1 = r := ⟨_, rfl⟩
      rw [hr] at HO ⊢
      have HR := Lib.hid hr
      clear hr
      go_enter Tryd.func92, Tryd.ntmps92
      go_wp2_with fail
      refine HT.out.mono ?_
      rintro e w1 ⟨rfl, hg1, hp1⟩
      have HU1 := Lib.hid (show UAt w pb s bash t1 d b2 w1 from ⟨hp1, grown_trans HUA.out.g hg1, HUA.out.b2.grown hg1 HN2.out, HUA.out.br.grown hg1 (Ne.symm (Nat.ne_of_lt HP.out.lt))⟩)
      have HSZ := Lib.hid (show w.heap.size + 1 ≤ w1.heap.size by have h1 := hg1.size; have h2 := HS0.out; omega)
      have yq := HU1.out.b2.c 0
      clear hg1 hp1 yp
      have HCL := Lib.hid (show Calls Tryd.prog 90 #[parserV pb] w1 (Tells pb s bash d w1 (parse nx lit k .unary d t1)) from HIU.out d t1 w1 HU1.out.p (by rw [HR.out]; exact HO.out))
      rw [HR.out] at HCL
      go_wp2_with fail
      refine HCL.out.mono ?_
      intro e w2 hs
      rcases Tells.or hs with ⟨a, c, h1, rfl, hg2⟩ | ⟨x, t2, A, c, h1, rfl, hS2, hp2, hg2⟩
      · have HE := Lib.hid (tells_faultr (d := d) (s := s) (bash := bash) h1 (grown_trans HU1.out.g hg2))
        clear hg2 hs h1
        go_wp2_with fail
        exact ⟨rfl, HE.out⟩
      · have hb2 := end_box HP.out (Nat.le_refl _) HU1.out.br hg2
        obtain ⟨z0, z1, z2, z3, z4, z5, z6, z7⟩ := hb2.all
        have HB2 := Lib.hid hb2
        have HE := Lib.hid (end_tells HP.out HU1.out.g (Nat.le_refl _) HSZ.out hS2 hp2 hg2)
        have HH := Lib.hid h1
        clear hg2 hs hp2 hS2 hb2 h1
        go_wp2_with fail
        refine bodyPost_ret (results_cell_row rfl _ _ w.heap.size 25 #[.string x.op, .string x.name, .int .i64 x.num, .slice A x.kids.length c] (0, 0) _ rfl (HB2.out.set4 _ _ _ _) Tryd.underlying25 rfl (by kernel_rfl)) rfl ?_
        rw [HH.out]
        exact HE.out
    · rw [if_neg (by decide), if_neg (by decide), if_pos (by decide)] at HO ⊢
      by_cases hk : t1.kind = 2
      · rw [if_pos hk]
        have hkb : ((t1.kind : Int) != 2) = false := by rw [hk]; rfl
        clear hk HO
        go_enter Tryd.func92, Tryd.ntmps92
        go_wp2_with fail
        refine HT.out.mono ?_
        rintro e w1 ⟨rfl, hg1, hp1⟩
        have HU1 := Lib.hid (show UAt w pb s bash t1 d b2 w1 from ⟨hp1, grown_trans HUA.out.g hg1, HUA.out.b2.grown hg1 HN2.out, HUA.out.br.grown hg1 (Ne.symm (Nat.ne_of_lt HP.out.lt))⟩)
        have HSZ := Lib.hid (show w.heap.size + 1 ≤ w1.heap.size by have h1 := hg1.size; have h2 := HS0.out; omega)
        have yq := HU1.out.b2.c 0
        clear hg1 hp1 yp
        have x2 := HU1.out.p.c2
        have x3 := HU1.out.p.c3
        go_wp2_with fail
        refine (of_calls _ _ _ _ _).mono ?_
        rintro e w2 ⟨rfl, hb2⟩
        have hba := (Below.refl _ w1).alloc (Nat.le_refl _) (.cells #[.string em, .string t1.text, .int .i64 0, .slice none 0 0] 25)
        have hbc := (Below.refl _ w2).alloc (Nat.le_refl _) (.cells #[.string (sPre ++ (⟨#[43, 43]⟩ : ByteArray)), .string em, .int .i64 0, .slice (some ⟨w1.heap.size, 0, none⟩) 1 1] 25)
        have HPC := Lib.hid (((HU1.out.p.bel hba).bel hb2).bel hbc)
        have HBR := Lib.hid (((HU1.out.br.bel hba).bel hb2).bel hbc)
        have HBP := Lib.hid (((HU1.out.b2.bel hba).bel hb2).bel hbc)
        have HXB := Lib.hid (Bx.new w2 #[.string (sPre ++ (⟨#[43, 43]⟩ : ByteArray)), .string em, .int .i64 0, .slice (some ⟨w1.heap.size, 0, none⟩) 1 1])
        have hk5 : w2.heap[w1.heap.size]? = some (.cells #[.string em, .string t1.text, .int .i64 0, .slice none 0 0] 25 (0, 0)) := (hb2.block _ (by simp)).trans (heap_alloc_new w1 _)
        have hsum : SumR (w2.alloc (.cells #[.string (sPre ++ (⟨#[43, 43]⟩ : ByteArray)), .string em, .int .i64 0, .slice (some ⟨w1.heap.size, 0, none⟩) 1 1] 25)) (w.heap.size + 1 ≤ ·) (un (sPre ++ (⟨#[43, 43]⟩ : ByteArray)) (varE t1.text)) [.string (sPre ++ (⟨#[43, 43]⟩ : ByteArray)), .string em, .int .i64 0, .slice (some ⟨w1.heap.size, 0, none⟩) 1 1] :=
          (one_made (x := varE t1.text) (A := none) (c := 0) _ (SumR.leaf _ _ _ _ _) hk5 HSZ.out).bel hbc
        have HSUM := Lib.hid hsum
        have HGC := Lib.hid (grown_trans (grown_trans (grown_trans HU1.out.g (grown_of_below hba _)) (grown_of_below hb2 _)) (grown_of_below hbc _))
        have yr := HBP.out.c 0
        have HGO := Lib.hid (goOn_calls HX.out HN.out _ HPC.out)
        have hxb : w2.heap.size ≠ pb := by have h1 := HU1.out.p.lt; have h2 := hb2.size; simp at h2; omega
        clear hba hb2 hbc hk5 hsum x2 x3
        go_wp2_with fail
        refine HGO.out.mono ?_
        rintro e w3 ⟨rfl, hg3, hp3⟩
        obtain ⟨q0, q1, q2, q3, q4, q5, q6, q7⟩ := (HXB.out.grown hg3 hxb).all
        have HB3 := Lib.hid (end_box HP.out (Nat.le_refl _) HBR.out hg3)
        obtain ⟨z0, z1, z2, z3, z4, z5, z6, z7⟩ := HB3.out.all
        have HE := Lib.hid (tells_fin (Nat.le_refl _) HP.out (grown_trans HGC.out hg3) (HSUM.out.far hg3 (Nat.lt_succ_of_lt HP.out.lt)) hp3 (grown_box4 (.string (sPre ++ (⟨#[43, 43]⟩ : ByteArray))) (.string em) (.int .i64 0) (.slice (some ⟨w1.heap.size, 0, none⟩) 1 1)))
        clear hg3 hp3
        go_wp2_with fail
        refine bodyPost_ret (results_cell_row rfl _ _ w.heap.size 25 #[.string (sPre ++ (⟨#[43, 43]⟩ : ByteArray)), .string em, .int .i64 0, .slice (some ⟨w1.heap.size, 0, none⟩) 1 1] (0, 0) _ rfl (HB3.out.set4 _ _ _ _) Tryd.underlying25 rfl (by kernel_rfl)) rfl ?_
        exact HE.out
      · rw [if_neg hk]
        have hkb : ((t1.kind : Int) != 2) = true := bne_iff_ne.2 (fun h => hk (by omega))
        clear hk HO
        go_enter Tryd.func92, Tryd.ntmps92
        go_wp2_with fail
        refine HT.out.mono ?_
        rintro e w1 ⟨rfl, hg1, hp1⟩
        have HU1 := Lib.hid (show UAt w pb s bash t1 d b2 w1 from ⟨hp1, grown_trans HUA.out.g hg1, HUA.out.b2.grown hg1 HN2.out, HUA.out.br.grown hg1 (Ne.symm (Nat.ne_of_lt HP.out.lt))⟩)
        have HSZ := Lib.hid (show w.heap.size + 1 ≤ w1.heap.size by have h1 := hg1.size; have h2 := HS0.out; omega)
        have yq := HU1.out.b2.c 0
        clear hg1 hp1 yp
        have x2 := HU1.out.p.c2
        have HFL := Lib.hid (fail_calls 33 w1 HU1.out.p)
        go_wp2_with fail
        refine HFL.out.mono ?_
        rintro e w2 ⟨rfl, hb2⟩
        have HE := Lib.hid (tells_faultr (r := .fault t1.pos 33) (d := d) (s := s) (bash := bash) rfl (grown_trans HU1.out.g (grown_of_below hb2 (some pb))))
        clear hb2
        go_wp2_with fail
        exact ⟨rfl, HE.out⟩
    · rw [if_neg (by decide), if_neg (by decide), if_pos (by decide)] at HO ⊢
      by_cases hk : t1.kind = 2
      · rw [if_pos hk]
        have hkb : ((t1.kind : Int) != 2) = false := by rw [hk]; rfl
        clear hk HO
        go_enter Tryd.func92, Tryd.ntmps92
        go_wp2_with fail
        refine HT.out.mono ?_
        rintro e w1 ⟨rfl, hg1, hp1⟩
        have HU1 := Lib.hid (show UAt w pb s bash t1 d b2 w1 from ⟨hp1, grown_trans HUA.out.g hg1, HUA.out.b2.grown hg1 HN2.out, HUA.out.br.grown hg1 (Ne.symm (Nat.ne_of_lt HP.out.lt))⟩)
        have HSZ := Lib.hid (show w.heap.size + 1 ≤ w1.heap.size by have h1 := hg1.size; have h2 := HS0.out; omega)
        have yq := HU1.out.b2.c 0
        clear hg1 hp1 yp
        have x2 := HU1.out.p.c2
        have x3 := HU1.out.p.c3
        go_wp2_with fail
        refine (of_calls _ _ _ _ _).mono ?_
        rintro e w2 ⟨rfl, hb2⟩
        have hba := (Below.refl _ w1).alloc (Nat.le_refl _) (.cells #[.string em, .string t1.text, .int .i64 0, .slice none 0 0] 25)
        have hbc := (Below.refl _ w2).alloc (Nat.le_refl _) (.cells #[.string (sPre ++ (⟨#[45, 45]⟩ : ByteArray)), .string em, .int .i64 0, .slice (some ⟨w1.heap.size, 0, none⟩) 1 1] 25)
        have HPC := Lib.hid (((HU1.out.p.bel hba).bel hb2).bel hbc)
        have HBR := Lib.hid (((HU1.out.br.bel hba).bel hb2).bel hbc)
        have HBP := Lib.hid (((HU1.out.b2.bel hba).bel hb2).bel hbc)
        have HXB := Lib.hid (Bx.new w2 #[.string (sPre ++ (⟨#[45, 45]⟩ : ByteArray)), .string em, .int .i64 0, .slice (some ⟨w1.heap.size, 0, none⟩) 1 1])
        have hk5 : w2.heap[w1.heap.size]? = some (.cells #[.string em, .string t1.text, .int .i64 0, .slice none 0 0] 25 (0, 0)) := (hb2.block _ (by simp)).trans (heap_alloc_new w1 _)
        have hsum : SumR (w2.alloc (.cells #[.string (sPre ++ (⟨#[45, 45]⟩ : ByteArray)), .string em, .int .i64 0, .slice (some ⟨w1.heap.size, 0, none⟩) 1 1] 25)) (w.heap.size + 1 ≤ ·) (un (sPre ++ (⟨#[45, 45]⟩ : ByteArray)) (varE t1.text)) [.string (sPre ++ (⟨#[45, 45]⟩ : ByteArray)), .string em, .int .i64 0, .slice (some ⟨w1.heap.size, 0, none⟩) 1 1] :=
          (one_made (x := varE t1.text) (A := none) (c := 0) _ (SumR.leaf _ _ _ _ _) hk5 HSZ.out).bel hbc
        have HSUM := Lib.hid hsum
        have HGC := Lib.hid (grown_trans (grown_trans (grown_trans HU1.out.g (grown_of_below hba _)) (grown_of_below hb2 _)) (grown_of_below hbc _))
        have yr := HBP.out.c 0
        have HGO := Lib.hid (goOn_calls HX.out HN.out _ HPC.out)
        have hxb : w2.heap.size ≠ pb := by have h1 := HU1.out.p.lt; have h2 := hb2.size; simp at h2; omega
        clear hba hb2 hbc hk5 hsum x2 x3
        go_wp2_with fail
        refine HGO.out.mono ?_
        rintro e w3 ⟨rfl, hg3, hp3⟩
        obtain ⟨q0, q1, q2, q3, q4, q5, q6, q7⟩ := (HXB.out.grown hg3 hxb).all
        have HB3 := Lib.hid (end_box HP.out (Nat.le_refl _) HBR.out hg3)
        obtain ⟨z0, z1, z2, z3, z4, z5, z6, z7⟩ := HB3.out.all
        have HE := Lib.hid (tells_fin (Nat.le_refl _) HP.out (grown_trans HGC.out hg3) (HSUM.out.far hg3 (Nat.lt_succ_of_lt HP.out.lt)) hp3 (grown_box4 (.string (sPre ++ (⟨#[45, 45]⟩ : ByteArray))) (.string em) (.int .i64 0) (.slice (some ⟨w1.heap.size, 0, none⟩) 1 1)))
        clear hg3 hp3
        go_wp2_with fail
        refine bodyPost_ret (results_cell_row rfl _ _ w.heap.size 25 #[.string (sPre ++ (⟨#[45, 45]⟩ : ByteArray)), .string em, .int .i64 0, .slice (some ⟨w1.heap.size, 0, none⟩) 1 1] (0, 0) _ rfl (HB3.out.set4 _ _ _ _) Tryd.underlying25 rfl (by kernel_rfl)) rfl ?_
        exact HE.out
      · rw [if_neg hk]
        have hkb : ((t1.kind : Int) != 2) = true := bne_iff_ne.2 (fun h => hk (by omega))
        clear hk HO
        go_enter Tryd.func92, Tryd.ntmps92
        go_wp2_with fail
        refine HT.out.mono ?_
        rintro e w1 ⟨rfl, hg1, hp1⟩
        have HU1 := Lib.hid (show UAt w pb s bash t1 d b2 w1 from ⟨hp1, grown_trans HUA.out.g hg1, HUA.out.b2.grown hg1 HN2.out, HUA.out.br.grown hg1 (Ne.symm (Nat.ne_of_lt HP.out.lt))⟩)
        have HSZ := Lib.hid (show w.heap.size + 1 ≤ w1.heap.size by have h1 := hg1.size; have h2 := HS0.out; omega)
        have yq := HU1.out.b2.c 0
        clear hg1 hp1 yp
        have x2 := HU1.out.p.c2
        have HFL := Lib.hid (fail_calls 33 w1 HU1.out.p)
        go_wp2_with fail
        refine HFL.out.mono ?_
        rintro e w2 ⟨rfl, hb2⟩
        have HE := Lib.hid (tells_faultr (r := .fault t1.pos 33) (d := d) (s := s) (bash := bash) rfl (grown_trans HU1.out.g (grown_of_below hb2 (some pb))))
        clear hb2
        go_wp2_with fail
        exact ⟨rfl, HE.out⟩
set_option maxHeartbeats 2000000 in
theorem unary_calls (hx : Nx nx s.size) (hn : NextC nx pb s bash) (hi : InC) (ihp : PC nx lit pb s bash k .post) (ihu : PC nx lit pb s bash k .unary) : PC nx lit pb s bash (k + 1) .unary := by
  intro d t w h hro
  rw [parse] at hro ⊢
  have HAT := Lib.hid (p_start w h)
  obtain ⟨w0, hw0⟩ : ∃ w0, w0 = (w.alloc (.cells #[parserV pb] 42)).alloc (.cells #[.string ⟨#[]⟩, .string ⟨#[]⟩, .int .i64 0, .slice none 0 0] 25) := ⟨_, rfl⟩
  rw [show (w.alloc (.cells #[parserV pb] 42)).alloc zeroO = w0 from hw0.symm] at HAT
  have HW0 := Lib.hid hw0
  have HP := Lib.hid h
  have yp := HAT.out.bp.c 0
  rw [hw0] at yp
  obtain ⟨r, hr⟩ : ∃ r, (deeperF d t fun d => unF nx lit k d t) = r := ⟨_, rfl⟩
  have hlt := h.lt
  have hro2 : r ≠ .out := by rw [← hr]; exact hro
  have hdc : Calls Tryd.prog 56 #[parserV pb, .func (.func 92) #[] #[.pointer (some ⟨w.heap.size, 0, none⟩)]] w0 (TellsI (fun _ => False) pb s bash d w0 r) := by
    rw [← hr]
    refine deeper_calls (t := t) (d := d) w0 (fun _ => False) (fun _ h => h.elim) 92 #[.pointer (some ⟨w.heap.size, 0, none⟩)] (fun d => unF nx lit k d t) HAT.out.p (enters_of Tryd.func92 (by kernel_rfl) rfl) (fun w4 hp4 hg4 => ?_)
    have h60 := hp4.d60
    rw [deeperF_at (by omega)] at hr
    exact (unary1_calls hx hn hi ihp ihu (d + 1) t w4 w.heap.size hp4 (HAT.out.bp.grown hg4 (by omega)) (by omega) (by rw [hr]; exact hro2)).mono (fun e w' hs => Tells.toI hs)
  have HDC := Lib.hid hdc
  rw [show (deeperF d t fun d => tookD nx unaryL t (parse nx lit k .post d t) fun op t =>
      if op = sPlus then parse nx lit k .unary d t
        else if op = sMinus then (parse nx lit k .unary d t).bind fun x t => .ok (un sNeg x) t
        else if op = sInc ∨ op = sDec then (if t.kind = 2 then .ok (un (sPre ++ op) (varE t.text)) (nx t.to_) else .fault t.pos 33)
        else (parse nx lit k .unary d t).bind fun x t => .ok (un op x) t) = r from hr]
  clear hw0 h hr hro hro2 hx hn hi ihp ihu hdc hlt
  show Calls Tryd.prog 90 #[parserV pb] w _
  go_enter Tryd.func90, Tryd.ntmps90
  go_wp2_with fail
  rw [← HW0.out]
  clear yp
  refine HDC.out.mono ?_
  intro e w1 hs
  rcases Tells.or hs.none with ⟨a, c, h1, rfl, hg1⟩ | ⟨x, t1, A, c, h1, rfl, hS1, hp1, hg1⟩
  · have HE := Lib.hid (tells_faultr (d := d) (s := s) (bash := bash) h1 (grown_trans HAT.out.g hg1))
    clear hg1 hs h1
    go_wp2_with fail
    exact ⟨rfl, HE.out⟩
  · have hb1 := end_box HP.out (Nat.le_succ _) HAT.out.br hg1
    obtain ⟨z0, z1, z2, z3, z4, z5, z6, z7⟩ := hb1.all
    have HB1 := Lib.hid hb1
    have HE := Lib.hid (end_tells HP.out HAT.out.g (Nat.le_succ _) (Nat.le_of_eq HAT.out.n.symm) hS1 hp1 hg1)
    have HH := Lib.hid h1
    clear hg1 hs hp1 hS1 hb1 h1
    go_wp2_with fail
    refine bodyPost_ret (results_cell_row rfl _ _ (w.heap.size + 1) 25 #[.string x.op, .string x.name, .int .i64 x.num, .slice A x.kids.length c] (0, 0) _ rfl (HB1.out.set4 _ _ _ _) Tryd.underlying25 rfl (by kernel_rfl)) rfl ?_
    rw [HH.out]
    exact HE.out
end
end Go.Proofs.YtlbgnpllbogkeaaDoor.Ext
end

section
set_option linter.unusedVariables false
set_option linter.unusedSimpArgs false
namespace Go.Proofs.YtlbgnpllbogkeaaDoor.Ext
open Go.RowKit Go.Proofs.YtlbgnpllbogkeaaDoorW.PrintWords
/-- What literal tells. -/
def LitSay (n : Int) (w : World) (e : Ending) (w' : World) : Prop := ∃ A c, e = .returned (.agg #[.string (litE n).op, .string (litE n).name, .int .i64 (litE n).num, .slice A (litE n).kids.length c]) ∧ SumR w' (w.heap.size + 1 ≤ ·) (litE n) [.string (litE n).op, .string (litE n).name, .int .i64 (litE n).num, .slice A (litE n).kids.length c] ∧ Below w.heap.size w w'
theorem below_box4 {w w' : World} {b : Nat} (h : Below w.heap.size w w') (hb : w.heap.size ≤ b) (u0 u1 u2 u3 : Value) : Below w.heap.size w ((((w'.setCell ⟨b, 0, none⟩ u0).setCell ⟨b, 1, none⟩ u1).setCell ⟨b, 2, none⟩ u2).setCell ⟨b, 3, none⟩ u3) :=
  (((h.setCell (p := ⟨b, 0, none⟩) hb _).setCell (p := ⟨b, 1, none⟩) hb _).setCell (p := ⟨b, 2, none⟩) hb _).setCell (p := ⟨b, 3, none⟩) hb _
set_option maxHeartbeats 2000000 in
theorem literal_calls (n : Int) (h1 : -9223372036854775808 ≤ n) (h2 : n ≤ 9223372036854775807) (w : World) : Calls Tryd.prog 94 #[.int .i64 n] w fun e w' => LitSay n w e w' := by
  unfold LitSay litE
  by_cases h0 : 0 ≤ n
  · rw [if_pos h0]
    have hd : decide (0 ≤ n) = true := decide_eq_true h0
    clear h1 h2
    go_enter Tryd.func94, Tryd.ntmps94
    go_wp2_with fail
    refine bodyPost_ret (results_cell_row rfl _ _ w.heap.size 25 #[.string em, .string em, .int .i64 n, .slice none 0 0] (0, 0) _ rfl (heap_alloc_new w _) Tryd.underlying25 rfl (by kernel_rfl)) rfl ?_
    exact ⟨none, 0, rfl, SumR.leaf _ _ _ _ _, (Below.refl _ w).alloc (Nat.le_refl _) _⟩
  · rw [if_neg h0]
    have hd : decide (0 ≤ n) = false := decide_eq_false h0
    have hw1 : wrap64 (n + 1) = n + 1 := by unfold wrap64; omega
    have hw2 : wrap64 (-(n + 1)) = -(n + 1) := by unfold wrap64; omega
    obtain ⟨m, hm⟩ : ∃ m, -(n + 1) = m := ⟨_, rfl⟩
    rw [hm] at hw2 ⊢
    clear h1 h2 h0
    go_enter Tryd.func94, Tryd.ntmps94
    go_wp2_with fail
    refine (of_calls _ _ _ _ _).mono ?_
    rintro e w2 ⟨rfl, hb2⟩
    have hb0 := (Below.refl _ w).alloc (Nat.le_refl _) (.cells #[.string ⟨#[]⟩, .string ⟨#[]⟩, .int .i64 0, .slice none 0 0] 25)
    have e1 : (w.alloc (.cells #[.string ⟨#[]⟩, .string ⟨#[]⟩, .int .i64 0, .slice none 0 0] 25)).heap.size = w.heap.size + 1 := by simp
    obtain ⟨w0, hw0⟩ : ∃ w0, w0 = w.alloc (.cells #[.string ⟨#[]⟩, .string ⟨#[]⟩, .int .i64 0, .slice none 0 0] 25) := ⟨_, rfl⟩
    have hB0 := Bx.new w #[.string ⟨#[]⟩, .string ⟨#[]⟩, .int .i64 0, .slice none 0 0]
    rw [← hw0] at hb0 e1 hB0 hb2
    have hb1 := (Below.refl _ w0).alloc (Nat.le_refl _) (twoC (numE m) (numE 1) none none 0 0)
    have hn1 : (w0.alloc (twoC (numE m) (numE 1) none none 0 0)).heap[w0.heap.size]? = some (.cells #[.string (numE m).op, .string (numE m).name, .int .i64 (numE m).num, .slice none (numE m).kids.length 0, .string (numE 1).op, .string (numE 1).name, .int .i64 (numE 1).num, .slice none (numE 1).kids.length 0] 25 (0, 0)) := heap_alloc_new w0 _
    have hn2 := (hb2.block w0.heap.size (by simp)).trans hn1
    have hs2 : SumR w2 (w.heap.size + 1 ≤ ·) (bi sPlus (numE m) (numE 1)) [.string sPlus, .string em, .int .i64 0, .slice (some ⟨w0.heap.size, 0, none⟩) 2 2] :=
      two_made (w3 := w0) (A := none) (A3 := none) (c := 0) (c3 := 0) sPlus (SumR.leaf _ _ _ _ _) (SumR.leaf _ _ _ _ _) hn2 (Nat.le_of_eq e1.symm)
    have hbw : Below w.heap.size w w2 := below_step hb0 (below_step hb1 hb2)
    have hsz : w.heap.size + 1 ≤ w2.heap.size := by have h1 := hb2.size; simp at h1; omega
    have hbx := (hB0.bel hb1).bel hb2
    rw [e1] at hs2
    have HS2 := Lib.hid hs2
    have HBW := Lib.hid hbw
    have HBX := Lib.hid hbx
    have HSZ := Lib.hid hsz
    clear hb2 hb0 hb1 hn1 hn2 hs2 hbw hsz hbx hB0
    go_wp2_with fail
    refine (of_calls _ _ _ _ _).mono ?_
    rintro e w4 ⟨rfl, hb4⟩
    have hba := (Below.refl _ w2).alloc (Nat.le_refl _) (.cells #[.string sPlus, .string em, .int .i64 0, .slice (some ⟨w.heap.size + 1, 0, none⟩) 2 2] 25)
    have hk : w4.heap[w2.heap.size]? = some (.cells #[.string sPlus, .string em, .int .i64 0, .slice (some ⟨w.heap.size + 1, 0, none⟩) 2 2] 25 (0, 0)) := (hb4.block _ (by simp)).trans (heap_alloc_new w2 _)
    have HS4 := Lib.hid (one_made (x := bi sPlus (numE m) (numE 1)) (A := some ⟨w.heap.size + 1, 0, none⟩) (c := 2) sNeg ((HS2.out.bel hba).bel hb4) hk HSZ.out)
    have HB4 := Lib.hid ((HBX.out.bel hba).bel hb4)
    have HBL := Lib.hid (below_step HBW.out (below_step hba hb4))
    obtain ⟨z0, z1, z2, z3, z4, z5, z6, z7⟩ := HB4.out.all
    clear hba hk hb4
    go_wp2_with fail
    refine bodyPost_ret (results_cell_row rfl _ _ w.heap.size 25 #[.string sNeg, .string em, .int .i64 0, .slice (some ⟨w2.heap.size, 0, none⟩) 1 1] (0, 0) _ rfl (HB4.out.set4 _ _ _ _) Tryd.underlying25 rfl (by kernel_rfl)) rfl ?_
    exact ⟨some ⟨w2.heap.size, 0, none⟩, 1, rfl, HS4.out.far (grown_box4 _ _ _ _) (Nat.lt_succ_self _), below_box4 HBL.out (Nat.le_refl _) _ _ _ _⟩
/-- What number.Literal is to tell. -/
def LitC (lit : ByteArray → Int) : Prop := ∀ (b : ByteArray) (w : World), b.size ≤ 16384 → Calls Tryd.prog 49 #[.string b] w fun e w' => (∃ c : Int, e = .returned (.tuple #[.int .i64 (lit b), .int .i64 c])) ∧ Below w.heap.size w w'
def LitB (lit : ByteArray → Int) : Prop := ∀ b, -9223372036854775808 ≤ lit b ∧ lit b ≤ 9223372036854775807
theorem took_mem {nx : Nat → Tok} {l : List ByteArray} {t t1 : Tok} {op : ByteArray} (h : tookF nx l t = some (op, t1)) : op ∈ l := by
  unfold tookF at h
  split at h
  · rename_i hc
    injection h with h
    injection h with h1 _
    rw [← h1]
    exact inL_iff.1 hc.2
  · cases h
theorem step_size {op : ByteArray} (h : op ∈ stepL) : op.size = 2 := by
  have hc : op = ⟨#[43, 43]⟩ ∨ op = ⟨#[45, 45]⟩ := by simpa [stepL] using h
  rcases hc with rfl | rfl <;> rfl
theorem set_step : SetOf ⟨#[43, 43, 32, 45, 45]⟩ stepL := ⟨by decide, by decide, by decide, by decide, by decide⟩
theorem set_l : SetOf ⟨#[40]⟩ [sL] := ⟨by decide, by decide, by decide, by decide, by decide⟩
theorem set_r : SetOf ⟨#[41]⟩ [sR] := ⟨by decide, by decide, by decide, by decide, by decide⟩
/-- What post knows of its boxes. -/
structure TAt (w : World) (pb : Nat) (s : ByteArray) (bash : Bool) (t0 t : Tok) (d : Nat) (w1 : World) : Prop where
  p : PB w1 pb s bash t d
  g : w.grownBy w1 (some pb)
  br : Bx w1 w.heap.size #[.string ⟨#[]⟩, .string ⟨#[]⟩, .int .i64 0, .slice none 0 0]
  bt : Bk w1 (w.heap.size + 1) 44 #[.int .i64 t0.kind, .string t0.text, .int .i64 t0.pos, .int .i64 t0.to_]
section
variable {nx : Nat → Tok} {lit : ByteArray → Int} {pb : Nat} {s : ByteArray} {bash : Bool} {t t0 t1 : Tok} {d k : Nat} {w w1 w2 : World}
theorem TAt.bel (h : TAt w pb s bash t0 t d w1) (hb : Below w1.heap.size w1 w2) : TAt w pb s bash t0 t d w2 := ⟨h.p.bel hb, grown_trans h.g (grown_of_below hb _), h.br.bel hb, h.bt.bel hb⟩
theorem TAt.grown (hpb : pb < w.heap.size) (h : TAt w pb s bash t0 t d w1) (hg : w1.grownBy w2 (some pb)) (hp : PB w2 pb s bash t1 d) : TAt w pb s bash t0 t1 d w2 :=
  ⟨hp, grown_trans h.g hg, h.br.grown hg (by omega), h.bt.grown hg (by omega)⟩
theorem t_start (w : World) (h : PB w pb s bash t d) : TAt w pb s bash t t d ((w.alloc zeroO).alloc (.cells #[.int .i64 t.kind, .string t.text, .int .i64 t.pos, .int .i64 t.to_] 44)) := by
  have h1 := (Below.refl _ w).alloc (Nat.le_refl _) zeroO
  have h3 := (Below.refl _ (w.alloc zeroO)).alloc (Nat.le_refl _) (.cells #[.int .i64 t.kind, .string t.text, .int .i64 t.pos, .int .i64 t.to_] 44)
  have e1 : (w.alloc zeroO).heap.size = w.heap.size + 1 := by simp
  have b3 := Bk.new (w.alloc zeroO) 44 #[.int .i64 t.kind, .string t.text, .int .i64 t.pos, .int .i64 t.to_]
  rw [e1] at b3
  exact ⟨(h.bel h1).bel h3, grown_trans (grown_of_below h1 _) (grown_of_below h3 _), (Bx.new w _).bel h3, b3⟩
set_option maxHeartbeats 8000000 in
theorem post_calls (hx : Nx nx s.size) (hn : NextC nx pb s bash) (hi : InC) (hlc : LitC lit) (hlb : LitB lit) (ihc : PC nx lit pb s bash k .comma) : PC nx lit pb s bash (k + 1) .post := by
  intro d t w h hro
  rw [parse] at hro ⊢
  have hp0 := h.bel ((Below.refl _ w).alloc (Nat.le_refl _) (.cells #[.string ⟨#[]⟩, .string ⟨#[]⟩, .int .i64 0, .slice none 0 0] 25))
  have x2 := hp0.c2
  have x3 := hp0.c3
  have x4 := hp0.c4
  have x5 := hp0.c5
  have HAT := Lib.hid (t_start w h)
  have HP := Lib.hid h
  have HTX := Lib.hid h.txt
  have HX := Lib.hid hx
  have HN := Lib.hid hn
  have HI := Lib.hid hi
  have HLC := Lib.hid hlc
  have HLB := Lib.hid hlb
  have HIC := Lib.hid ihc
  have HRO := Lib.hid hro
  have hs0 : ((w.alloc (.cells #[.string ⟨#[]⟩, .string ⟨#[]⟩, .int .i64 0, .slice none 0 0] 25)).alloc (.cells #[.int .i64 t.kind, .string t.text, .int .i64 t.pos, .int .i64 t.to_] 44)).heap.size = w.heap.size + 1 + 1 := by simp
  have HS0 := Lib.hid hs0
  clear hp0 h hro hx hn hi hlc hlb ihc hs0
  show Calls Tryd.prog 93 #[parserV pb] w _
  by_cases h1 : t.kind = 1
  · rw [if_pos h1] at HRO ⊢
    have k1 : ((t.kind : Int) == 1) = true := by rw [h1]; rfl
    clear h1 HRO
    go_enter Tryd.func93, Tryd.ntmps93
    go_wp2_with fail
    refine (HLC.out t.text _ HTX.out).mono ?_
    rintro e w2 ⟨⟨cc, rfl⟩, hb2⟩
    have HA2 := Lib.hid (HAT.out.bel hb2)
    have HG := Lib.hid (goOn_calls HX.out HN.out w2 HA2.out.p)
    have hl := HLB.out t.text
    have hsz2 : w.heap.size + 1 ≤ w2.heap.size := by have h1 := hb2.size; have h2 := HS0.out; omega
    have HSZ2 := Lib.hid hsz2
    generalize lit t.text = n at *
    have HLI := Lib.hid (fun W => literal_calls n hl.1 hl.2 W)
    clear hb2 x2 x3 x4 x5 hl hsz2
    go_wp2_with fail
    refine HG.out.mono ?_
    rintro e w3 ⟨rfl, hg3, hp3⟩
    have HA3 := Lib.hid (TAt.grown HP.out.lt HA2.out hg3 hp3)
    have HSZ3 := Lib.hid (Nat.le_trans HSZ2.out hg3.size)
    clear hg3 hp3
    go_wp2_with fail
    refine (HLI.out w3).mono ?_
    rintro e w4 ⟨A, c, rfl, hS4, hb4⟩
    have HA4 := Lib.hid (HA3.out.bel hb4)
    have HB4 := Lib.hid HA4.out.br
    obtain ⟨z0, z1, z2, z3, z4, z5, z6, z7⟩ := HB4.out.all
    have HE := Lib.hid (tells_fin (Nat.le_refl _) HP.out HA4.out.g (hS4.least (by have := HSZ3.out; omega)) HA4.out.p (grown_box4 (.string (litE n).op) (.string (litE n).name) (.int .i64 (litE n).num) (.slice A (litE n).kids.length c)))
    clear hS4 hb4
    go_wp2_with fail
    refine bodyPost_ret (results_cell_row rfl _ _ w.heap.size 25 #[.string (litE n).op, .string (litE n).name, .int .i64 (litE n).num, .slice A (litE n).kids.length c] (0, 0) _ rfl (HB4.out.set4 _ _ _ _) Tryd.underlying25 rfl (by kernel_rfl)) rfl ?_
    exact HE.out
  · rw [if_neg h1] at HRO ⊢
    have k1 : ((t.kind : Int) == 1) = false := beq_eq_false_iff_ne.2 (by omega)
    by_cases h2 : t.kind = 2
    · rw [if_pos h2] at HRO ⊢
      have k2 : ((t.kind : Int) == 2) = true := by rw [h2]; rfl
      obtain ⟨r, hr⟩ : ∃ r, (tookD nx stepL (nx t.to_) (.ok (varE t.text) (nx t.to_)) fun op t1 => .ok (un (sPost ++ op) (varE t.text)) t1) = r := ⟨_, rfl⟩
      rw [hr]
      have HR := Lib.hid hr
      clear h1 h2 HRO hr
      go_enter Tryd.func93, Tryd.ntmps93
      go_wp2_with fail
      have HG := Lib.hid (goOn_calls HX.out HN.out _ HAT.out.p)
      clear x2 x3 x4 x5
      refine HG.out.mono ?_
      rintro e w2 ⟨rfl, hg2, hp2⟩
      have HA2 := Lib.hid (TAt.grown HP.out.lt HAT.out hg2 hp2)
      have yt := HA2.out.bt.c 1
      have hba := (Below.refl _ w2).alloc (Nat.le_refl _) (.cells #[.string ⟨#[]⟩, .string t.text, .int .i64 0, .slice none 0 0] 25)
      have HA3 := Lib.hid (HA2.out.bel hba)
      have HBX := Lib.hid (Bx.new w2 #[.string ⟨#[]⟩, .string t.text, .int .i64 0, .slice none 0 0])
      have HSZ := Lib.hid (show w.heap.size + 1 ≤ w2.heap.size from Nat.le_of_succ_le (Nat.le_trans (Nat.le_of_eq HS0.out.symm) hg2.size))
      have HT := Lib.hid (took_calls HX.out HN.out HI.out ⟨#[43, 43, 32, 45, 45]⟩ stepL set_step _ HA3.out.p)
      have hxb : w2.heap.size ≠ pb := Ne.symm (Nat.ne_of_lt HA2.out.p.lt)
      clear hg2 hp2 hba HG
      generalize nx t.to_ = t2 at *
      cases htk : tookF nx stepL t2 with
      | none =>
        rw [htk] at HT
        have hr := HR.out
        rw [tookD_no htk] at hr
        have HR2 := Lib.hid hr
        clear hr HR
        go_wp2_with fail
        refine HT.out.mono ?_
        rintro e w3 ⟨rfl, hg3, hp3⟩
        obtain ⟨q0, q1, q2, q3, q4, q5, q6, q7⟩ := (HBX.out.grown hg3 hxb).all
        have HA4 := Lib.hid (TAt.grown HP.out.lt HA3.out hg3 hp3)
        have HB4 := Lib.hid HA4.out.br
        obtain ⟨z0, z1, z2, z3, z4, z5, z6, z7⟩ := HB4.out.all
        have HE := Lib.hid (tells_fin (x := varE t.text) (A := none) (c := 0) (Nat.le_refl _) HP.out HA4.out.g (SumR.leaf _ _ _ _ _) HA4.out.p (grown_box4 (.string em) (.string t.text) (.int .i64 0) (.slice none 0 0)))
        clear hg3 hp3
        go_wp2_with fail
        refine bodyPost_ret (results_cell_row rfl _ _ w.heap.size 25 #[.string em, .string t.text, .int .i64 0, .slice none 0 0] (0, 0) _ rfl (HB4.out.set4 _ _ _ _) Tryd.underlying25 rfl (by kernel_rfl)) rfl ?_
        rw [← HR2.out]
        exact HE.out
      | some p =>
        obtain ⟨op, t1⟩ := p
        rw [htk] at HT
        have hr := HR.out
        rw [tookD_yes htk] at hr
        have HR2 := Lib.hid hr
        clear hr HR
        go_wp2_with fail
        refine HT.out.mono ?_
        rintro e w3 ⟨rfl, hg3, hp3⟩
        obtain ⟨q0, q1, q2, q3, q4, q5, q6, q7⟩ := (HBX.out.grown hg3 hxb).all
        have HA4 := Lib.hid (TAt.grown HP.out.lt HA3.out hg3 hp3)
        have HSZ3 := Lib.hid (show w.heap.size + 1 ≤ w3.heap.size by have h1 := hg3.size; have h2 := HSZ.out; simp at h1; omega)
        have hop := step_size (took_mem htk)
        have hsz1 : (⟨#[112, 111, 115, 116]⟩ : ByteArray).size + op.size ≤ 9223372036854775807 := by rw [hop]; decide
        have hsz2 : 4 + op.size ≤ 9223372036854775807 := by rw [hop]; decide
        clear hg3 hp3 hop
        go_wp2_with fail
        refine (of_calls _ _ _ _ _).mono ?_
        rintro e w5 ⟨rfl, hb5⟩
        have hba := (Below.refl _ w3).alloc (Nat.le_refl _) (.cells #[.string em, .string t.text, .int .i64 0, .slice none 0 0] 25)
        have hk5 : w5.heap[w3.heap.size]? = some (.cells #[.string em, .string t.text, .int .i64 0, .slice none 0 0] 25 (0, 0)) := (hb5.block _ (by simp)).trans (heap_alloc_new w3 _)
        have HA5 := Lib.hid ((HA4.out.bel hba).bel hb5)
        have HB5 := Lib.hid HA5.out.br
        obtain ⟨z0, z1, z2, z3, z4, z5, z6, z7⟩ := HB5.out.all
        have HE := Lib.hid (tells_fin (Nat.le_refl _) HP.out HA5.out.g (one_made (x := varE t.text) (A := none) (c := 0) (sPost ++ op) (SumR.leaf _ _ _ _ _) hk5 HSZ3.out) HA5.out.p (grown_box4 (.string (sPost ++ op)) (.string em) (.int .i64 0) (.slice (some ⟨w3.heap.size, 0, none⟩) 1 1)))
        clear hba hk5 hb5
        go_wp2_with fail
        refine bodyPost_ret (results_cell_row rfl _ _ w.heap.size 25 #[.string (sPost ++ op), .string em, .int .i64 0, .slice (some ⟨w3.heap.size, 0, none⟩) 1 1] (0, 0) _ rfl (HB5.out.set4 _ _ _ _) Tryd.underlying25 rfl (by kernel_rfl)) rfl ?_
        rw [← HR2.out]
        exact HE.out
    · rw [if_neg h2] at HRO ⊢
      have k2 : ((t.kind : Int) == 2) = false := beq_eq_false_iff_ne.2 (by omega)
      obtain ⟨r, hr⟩ : ∃ r, (wantF nx sL t fun t => (parse nx lit k .comma d t).bind fun x t => wantF nx sR t fun t => .ok x t) = r := ⟨_, rfl⟩
      rw [hr] at HRO ⊢
      unfold wantF at hr
      have HRR := Lib.hid hr
      clear h1 h2 hr
      go_enter Tryd.func93, Tryd.ntmps93
      go_wp2_with fail
      have HT := Lib.hid (want_calls HX.out HN.out HI.out ⟨#[40]⟩ set_l _ HAT.out.p)
      clear x2 x3 x4 x5
      have hr := HRR.out
      cases htk : tookF nx [sL] t with
      | none =>
        rw [show tookF nx [(⟨#[40]⟩ : ByteArray)] t = none from htk] at HT
        rw [htk] at hr
        have HR := Lib.hid (show r = .fault t.pos 33 from hr.symm)
        clear hr
        refine HT.out.mono ?_
        rintro e w2 ⟨rfl, hg2⟩
        have HE := Lib.hid (tells_faultr (d := d) (s := s) (bash := bash) HR.out (grown_trans HAT.out.g hg2))
        clear hg2
        go_wp2_with fail
        exact ⟨rfl, HE.out⟩
      | some p =>
        obtain ⟨op, t2⟩ := p
        rw [show tookF nx [(⟨#[40]⟩ : ByteArray)] t = some (op, t2) from htk] at HT
        rw [htk] at hr
        have HR := Lib.hid (show ((parse nx lit k .comma d t2).bind fun x t => match tookF nx [sR] t with
          | none => .fault t.pos 33
          | some (_, t1) => .ok x t1) = r from hr)
        have HNE := Lib.hid (show parse nx lit k .comma d t2 ≠ .out from fun e => HRO.out (by rw [← HR.out, e]; rfl))
        clear hr
        refine HT.out.mono ?_
        rintro e w2 ⟨rfl, hg2, hp2⟩
        have HA2 := Lib.hid (TAt.grown HP.out.lt HAT.out hg2 hp2)
        have HSZ := Lib.hid (show w.heap.size + 1 ≤ w2.heap.size from Nat.le_of_succ_le (Nat.le_trans (Nat.le_of_eq HS0.out.symm) hg2.size))
        have HCL := Lib.hid (show Calls Tryd.prog 20 #[parserV pb] w2 (Tells pb s bash d w2 (parse nx lit k .comma d t2)) from HIC.out d t2 w2 HA2.out.p HNE.out)
        clear hg2 hp2 HT
        go_wp2_with fail
        refine HCL.out.mono ?_
        intro e w3 hs
        rcases Tells.or hs with ⟨a, c, h1, rfl, hg3⟩ | ⟨x, t3, A, c, h1, rfl, hS3, hp3, hg3⟩
        · have HE := Lib.hid (tells_fault (d := d) (s := s) (bash := bash) h1 HR.out (grown_trans HA2.out.g hg3))
          clear hg3 hs h1
          go_wp2_with fail
          exact ⟨rfl, HE.out⟩
        · have hr := HR.out
          rw [h1] at hr
          have hba := (Below.refl _ w3).alloc (Nat.le_refl _) (oneO x A c)
          have HA4 := Lib.hid ((TAt.grown HP.out.lt HA2.out hg3 hp3).bel hba)
          have HBX := Lib.hid (Bx.new w3 #[.string x.op, .string x.name, .int .i64 x.num, .slice A x.kids.length c])
          have HS4 := Lib.hid ((hS3.least HSZ.out).bel hba)
          have hxb : w3.heap.size ≠ pb := Ne.symm (Nat.ne_of_lt hp3.lt)
          have HTT := Lib.hid (want_calls HX.out HN.out HI.out ⟨#[41]⟩ set_r _ HA4.out.p)
          clear hs h1 hS3 hp3 hg3 hba HCL HR
          cases htr : tookF nx [sR] t3 with
          | none =>
            rw [show tookF nx [(⟨#[41]⟩ : ByteArray)] t3 = none from htr] at HTT
            have HR := Lib.hid (show r = .fault t3.pos 33 from hr.symm.trans (by show (match tookF nx [sR] t3 with | none => Rs.fault t3.pos 33 | some (_, t1) => .ok x t1) = _; rw [htr]))
            clear hr
            go_wp2_with fail
            refine HTT.out.mono ?_
            rintro e w4 ⟨rfl, hg4⟩
            have HE := Lib.hid (tells_faultr (d := d) (s := s) (bash := bash) HR.out (grown_trans HA4.out.g hg4))
            clear hg4
            go_wp2_with fail
            exact ⟨rfl, HE.out⟩
          | some p =>
            obtain ⟨op2, t4⟩ := p
            rw [show tookF nx [(⟨#[41]⟩ : ByteArray)] t3 = some (op2, t4) from htr] at HTT
            have HR := Lib.hid (show r = .ok x t4 from hr.symm.trans (by show (match tookF nx [sR] t3 with | none => Rs.fault t3.pos 33 | some (_, t1) => .ok x t1) = _; rw [htr]))
            clear hr
            go_wp2_with fail
            refine HTT.out.mono ?_
            rintro e w4 ⟨rfl, hg4, hp4⟩
            obtain ⟨q0, q1, q2, q3, q4, q5, q6, q7⟩ := (HBX.out.grown hg4 hxb).all
            have HA5 := Lib.hid (TAt.grown HP.out.lt HA4.out hg4 hp4)
            have HB5 := Lib.hid HA5.out.br
            obtain ⟨z0, z1, z2, z3, z4, z5, z6, z7⟩ := HB5.out.all
            have HE := Lib.hid (tells_fin (Nat.le_refl _) HP.out HA5.out.g (HS4.out.far hg4 (Nat.lt_succ_of_lt HP.out.lt)) HA5.out.p (grown_box4 (.string x.op) (.string x.name) (.int .i64 x.num) (.slice A x.kids.length c)))
            clear hg4 hp4
            go_wp2_with fail
            refine bodyPost_ret (results_cell_row rfl _ _ w.heap.size 25 #[.string x.op, .string x.name, .int .i64 x.num, .slice A x.kids.length c] (0, 0) _ rfl (HB5.out.set4 _ _ _ _) Tryd.underlying25 rfl (by kernel_rfl)) rfl ?_
            rw [HR.out]
            exact HE.out
end
end Go.Proofs.YtlbgnpllbogkeaaDoor.Ext
end

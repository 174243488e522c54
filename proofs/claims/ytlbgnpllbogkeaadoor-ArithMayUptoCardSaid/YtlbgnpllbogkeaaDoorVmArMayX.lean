/- Proved: arith.single's, all's and Check's calls, Plain's, whatever expression. Conditions: its names have at most 10 to the 9 octets; the table of blanks holds what its initialiser lays. -/
import Derived.Test.YtlbgnpllbogkeaaDoorVmArMayW
set_option linter.unusedVariables false
set_option linter.unusedSimpArgs false
namespace Go.Proofs.YtlbgnpllbogkeaaDoor.Ext
open Go.RowKit Go.Proofs.YtlbgnpllbogkeaaDoorW.PrintWords
theorem int_eq0 {n : Int} (h : n = 0) : (n == 0) = true := beq_iff_eq.2 h
theorem int_ne0 {n : Int} (h : ¬ n = 0) : (n == 0) = false := beq_eq_false_iff_ne.2 h
theorem single_leaf {x : E} (h : x.op.size = 0) : singleF x = (decide (x.kids.length = 0) && (decide (0 ≤ x.num) && (decide (x.name.size = 0) || (decide (x.num = 0) && nameOf x.name)))) := by
  unfold singleF
  rw [if_pos h]
theorem single_node {x : E} (h : ¬ x.op.size = 0) : singleF x = (decide (x.name.size = 0) && (decide (x.num = 0) && (decide ((x.kids.length : Int) = (countF x.op).1) && (!(countF x.op).2 || headVar x.kids)))) := by
  unfold singleF
  rw [if_neg h]
theorem name_calls' (b : ByteArray) (w : World) (h : b.size ≤ 1000000000) : Calls Tryd.prog 50 #[.string b] w fun e w' => e = .returned (.bool (nameOf b)) ∧ Below w.heap.size w w' := by
  refine (octets_Name.calls b (nameOf b) w ?_).mono fun e w' h => h
  unfold nameOf octets_Name.f
  rw [if_pos h]
  rfl
theorem count_bounds (op : ByteArray) : -1 ≤ (countF op).1 ∧ (countF op).1 ≤ 3 ∧ ((countF op).2 = true → 1 ≤ (countF op).1) := by
  rcases count_cases op with ⟨_, h⟩ | ⟨_, _, h⟩ | ⟨_, _, _, h⟩ | ⟨_, _, _, _, h⟩ | ⟨_, _, _, _, _, h⟩ | ⟨_, _, _, _, _, h⟩ <;> rw [h] <;> decide
set_option maxHeartbeats 8000000 in
set_option maxRecDepth 100000 in
theorem single_calls (x : E) (A : Option Addr) (c : Nat) (w : World) (ok : Nat → Prop) (h : SumR w ok x [.string x.op, .string x.name, .int .i64 x.num, .slice A x.kids.length c]) (hz : x.name.size ≤ 1000000000) (hT : Tab w) :
    Calls Tryd.prog 35 #[sumV x A c] w fun e w' => e = .returned (.bool (singleF x)) ∧ Below w.heap.size w w' := by
  have hmx : x.kids.length ≤ 9223372036854775807 := by obtain ⟨_, _, _, _, hm⟩ := h.inv; exact hm
  have hb0 := (Below.refl _ w).alloc (Nat.le_refl _) (.cells #[.string x.op, .string x.name, .int .i64 x.num, .slice A x.kids.length c] 25)
  have HB0 := Lib.hid hb0
  have HS0 := Lib.hid (h.bel hb0)
  have HX0 := Lib.hid (Bx.new w #[.string x.op, .string x.name, .int .i64 x.num, .slice A x.kids.length c])
  have HT0 := Lib.hid (hT.below hb0)
  by_cases h1 : x.op.size = 0
  · have e1 := emp_true h1
    rw [single_leaf h1]
    clear HS0 h h1
    by_cases h2 : x.kids.length = 0
    · have e2 : ((x.kids.length : Int) == 0) = true := beq_iff_eq.2 (by omega)
      rw [decide_eq_true h2]
      by_cases h3 : 0 ≤ x.num
      · have e3 : decide (0 ≤ x.num) = true := decide_eq_true h3
        rw [e3]
        by_cases h4 : x.name.size = 0
        · have e4 := emp_true h4
          rw [decide_eq_true h4]
          clear h2 h3 h4 hb0 hmx hT
          go_enter Tryd.func35, Tryd.ntmps35
          go_wp2_with fail
          go_ret
          exact ⟨rfl, HB0.out⟩
        · have e4 := emp_false h4
          rw [decide_eq_false h4]
          by_cases h5 : x.num = 0
          · have e5 := int_eq0 h5
            rw [decide_eq_true h5]
            have HN := Lib.hid (fun W => name_calls' x.name W hz)
            clear h2 h3 h4 h5 hb0 hmx hT
            go_enter Tryd.func35, Tryd.ntmps35
            go_wp2_with fail
            refine (HN.out _).mono ?_
            rintro e w1 ⟨rfl, hb1⟩
            have HB1 := Lib.hid (below_step HB0.out hb1)
            clear hb1
            go_wp2_with fail
            go_ret
            exact ⟨rfl, HB1.out⟩
          · have e5 := int_ne0 h5
            rw [decide_eq_false h5]
            clear h2 h3 h4 h5 hb0 hmx hT
            go_enter Tryd.func35, Tryd.ntmps35
            go_wp2_with fail
            go_ret
            exact ⟨rfl, HB0.out⟩
      · have e3 : decide (0 ≤ x.num) = false := decide_eq_false h3
        rw [e3]
        clear h2 h3 hb0 hmx hT
        go_enter Tryd.func35, Tryd.ntmps35
        go_wp2_with fail
        go_ret
        exact ⟨rfl, HB0.out⟩
    · have e2 : ((x.kids.length : Int) == 0) = false := beq_eq_false_iff_ne.2 (by omega)
      rw [decide_eq_false h2]
      clear h2 hb0 hmx hT
      go_enter Tryd.func35, Tryd.ntmps35
      go_wp2_with fail
      go_ret
      exact ⟨rfl, HB0.out⟩
  · have e1 := emp_false h1
    rw [single_node h1]
    have hcb := count_bounds x.op
    have HC := Lib.hid (count_calls x.op _ HT0.out)
    generalize countF x.op = R at *
    obtain ⟨n, fst⟩ := R
    dsimp only at hcb HC ⊢
    by_cases h2 : x.name.size = 0
    · have e2 := emp_true h2
      rw [decide_eq_true h2]
      by_cases h3 : x.num = 0
      · have e3 := int_eq0 h3
        rw [decide_eq_true h3]
        by_cases h4 : (x.kids.length : Int) = n
        · have e4 : ((x.kids.length : Int) == n) = true := beq_iff_eq.2 h4
          rw [decide_eq_true h4]
          cases fst with
          | false =>
            clear h2 h3 h4 hb0 h1 h hcb hT HS0
            go_enter Tryd.func35, Tryd.ntmps35
            go_wp2_with fail
            refine (HC.out).mono ?_
            rintro e w1 ⟨rfl, hb1⟩
            have HB1 := Lib.hid (below_step HB0.out hb1)
            obtain ⟨q0, q1, q2, q3, q4, q5, q6, q7⟩ := (HX0.out.bel hb1).all
            clear hb1
            go_wp2_with fail
            go_ret
            exact ⟨rfl, HB1.out⟩
          | true =>
            have hp : 0 < x.kids.length := by have := hcb.2.2 rfl; omega
            have hk : x.kids[0]? = some x.kids[0] := List.getElem?_eq_getElem hp
            have hhv : headVar x.kids = isVar x.kids[0] := by
              have : ∀ (l : List E) (hl : 0 < l.length), headVar l = isVar l[0] := by
                intro l hl
                cases l with
                | nil => simp at hl
                | cons a b => rfl
              exact this _ hp
            rw [hhv]
            have HKID := Lib.hid (fun (W : World) (hW : Below (w.alloc (.cells #[.string x.op, .string x.name, .int .i64 x.num, .slice A x.kids.length c] 25)).heap.size (w.alloc (.cells #[.string x.op, .string x.name, .int .i64 x.num, .slice A x.kids.length c] 25)) W) => (HS0.out.bel hW).kid hk)
            have hlp : (0 : Int) < (x.kids.length : Int) := by omega
            have HVC := Lib.hid (fun A n c W => variable_calls x.kids[0] A n c W)
            generalize x.kids[0] = k0 at *
            have hlp2 : decide ((0 : Int) < (x.kids.length : Int)) = true := decide_eq_true hlp
            clear h2 h3 h4 hb0 h1 h hcb hT hk hhv
            go_enter Tryd.func35, Tryd.ntmps35
            go_wp2_with fail
            refine (HC.out).mono ?_
            rintro e w1 ⟨rfl, hb1⟩
            have HB1 := Lib.hid (below_step HB0.out hb1)
            obtain ⟨q0, q1, q2, q3, q4, q5, q6, q7⟩ := (HX0.out.bel hb1).all
            obtain ⟨ad, A1, c1, hAe, hS1, x0, x1, x2, x3⟩ := HKID.out w1 hb1
            subst hAe
            replace x0 : w1.cell? ad = some (.string k0.op) := x0
            replace x1 : w1.cell? ⟨ad.block, ad.off + 1, none⟩ = some (.string k0.name) := x1
            replace x2 : w1.cell? ⟨ad.block, ad.off + 2, none⟩ = some (.int .i64 k0.num) := x2
            replace x3 : w1.cell? ⟨ad.block, ad.off + 3, none⟩ = some (.slice A1 k0.kids.length c1) := x3
            clear hb1 hS1
            go_wp2_with fail
            refine (HVC.out A1 k0.kids.length c1 w1).mono ?_
            rintro e w2 ⟨rfl, hb2⟩
            have HB2 := Lib.hid (below_step HB1.out hb2)
            clear hb2
            go_wp2_with fail
            go_ret
            exact ⟨rfl, HB2.out⟩
        · have e4 : ((x.kids.length : Int) == n) = false := beq_eq_false_iff_ne.2 h4
          rw [decide_eq_false h4]
          clear h2 h3 h4 hb0 h1 h hcb hT HS0
          go_enter Tryd.func35, Tryd.ntmps35
          go_wp2_with fail
          refine (HC.out).mono ?_
          rintro e w1 ⟨rfl, hb1⟩
          have HB1 := Lib.hid (below_step HB0.out hb1)
          obtain ⟨q0, q1, q2, q3, q4, q5, q6, q7⟩ := (HX0.out.bel hb1).all
          clear hb1
          go_wp2_with fail
          go_ret
          exact ⟨rfl, HB1.out⟩
      · have e3 := int_ne0 h3
        rw [decide_eq_false h3]
        clear h2 h3 hb0 h1 h hcb hT HS0
        go_enter Tryd.func35, Tryd.ntmps35
        go_wp2_with fail
        refine (HC.out).mono ?_
        rintro e w1 ⟨rfl, hb1⟩
        have HB1 := Lib.hid (below_step HB0.out hb1)
        obtain ⟨q0, q1, q2, q3, q4, q5, q6, q7⟩ := (HX0.out.bel hb1).all
        clear hb1
        go_wp2_with fail
        go_ret
        exact ⟨rfl, HB1.out⟩
    · have e2 := emp_false h2
      rw [decide_eq_false h2]
      clear h2 hb0 h1 h hcb hT HS0
      go_enter Tryd.func35, Tryd.ntmps35
      go_wp2_with fail
      refine (HC.out).mono ?_
      rintro e w1 ⟨rfl, hb1⟩
      have HB1 := Lib.hid (below_step HB0.out hb1)
      obtain ⟨q0, q1, q2, q3, q4, q5, q6, q7⟩ := (HX0.out.bel hb1).all
      clear hb1
      go_wp2_with fail
      go_ret
      exact ⟨rfl, HB1.out⟩
def AllC (x : E) : Prop := ∀ (A : Option Addr) (c : Nat) (w : World) (ok : Nat → Prop), SumR w ok x [.string x.op, .string x.name, .int .i64 x.num, .slice A x.kids.length c] → SzE x → Tab w →
    Calls Tryd.prog 23 #[sumV x A c] w fun e w' => e = .returned (.bool (allF x)) ∧ Below w.heap.size w w'
set_option maxHeartbeats 2000000 in
theorem all1_calls (x : E) (ih : AllC x) (A : Option Addr) (c : Nat) (w : World) (ok : Nat → Prop) (h : SumR w ok x [.string x.op, .string x.name, .int .i64 x.num, .slice A x.kids.length c]) (hz : SzE x) (hT : Tab w) :
    Calls Tryd.prog 37 #[sumV x A c] w fun e w' => e = .returned (.bool (!allF x)) ∧ Below w.heap.size w w' := by
  have hb0 := (Below.refl _ w).alloc (Nat.le_refl _) (.cells #[.string x.op, .string x.name, .int .i64 x.num, .slice A x.kids.length c] 25)
  have HC := Lib.hid (show Calls Tryd.prog 23 #[.agg #[.string x.op, .string x.name, .int .i64 x.num, .slice A x.kids.length c]] _ _ from ih A c _ ok (h.bel hb0) hz (hT.below hb0))
  have HB0 := Lib.hid hb0
  generalize allF x = b at *
  clear h hb0 ih hz hT
  go_enter Tryd.func37, Tryd.ntmps37
  go_wp2_with fail
  refine HC.out.mono ?_
  rintro e w1 ⟨rfl, hb1⟩
  have HB1 := Lib.hid (below_step HB0.out hb1)
  clear hb1
  go_wp2_with fail
  go_ret
  exact ⟨rfl, HB1.out⟩
set_option maxHeartbeats 4000000 in
theorem all_step (x : E) (ih : ∀ k ∈ x.kids, AllC k) : AllC x := by
  intro A c w ok h hz hT
  rw [allF_eq]
  have hb0 := (Below.refl _ w).alloc (Nat.le_refl _) (.cells #[.string x.op, .string x.name, .int .i64 x.num, .slice A x.kids.length c] 25)
  have HB0 := Lib.hid hb0
  have HX0 := Lib.hid (Bx.new w #[.string x.op, .string x.name, .int .i64 x.num, .slice A x.kids.length c])
  have HC := Lib.hid (show Calls Tryd.prog 35 #[.agg #[.string x.op, .string x.name, .int .i64 x.num, .slice A x.kids.length c]] _ _ from single_calls x A c _ ok (h.bel hb0) hz.here (hT.below hb0))
  have HK := Lib.hid (fun (W : World) (hW : Below (w.alloc (.cells #[.string x.op, .string x.name, .int .i64 x.num, .slice A x.kids.length c] 25)).heap.size (w.alloc (.cells #[.string x.op, .string x.name, .int .i64 x.num, .slice A x.kids.length c] 25)) W) =>
    (show Calls Tryd.prog 36 #[.slice A x.kids.length c, .func (.func 37) #[] #[]] W _ from
    containsS_calls 37 #[] (enters_of Tryd.func37 (by kernel_rfl) rfl) (fun k => !allF k) x A c W ok ((h.bel hb0).bel hW)
      (fun k hk A1 c1 W1 hW1 hS1 => all1_calls k (ih k hk) A1 c1 W1 ok hS1 (hz.kid hk) (((hT.below hb0).below hW).below hW1))))
  generalize x.kids.any (fun k => !allF k) = b at *
  clear h hb0 ih hz hT
  cases hs : singleF x with
  | false =>
    rw [hs] at HC
    clear hs HK
    go_enter Tryd.func23, Tryd.ntmps23
    go_wp2_with fail
    refine HC.out.mono ?_
    rintro e w1 ⟨rfl, hb1⟩
    have HB1 := Lib.hid (below_step HB0.out hb1)
    clear hb1
    go_wp2_with fail
    go_ret
    exact ⟨rfl, HB1.out⟩
  | true =>
    rw [hs] at HC
    clear hs
    go_enter Tryd.func23, Tryd.ntmps23
    go_wp2_with fail
    refine HC.out.mono ?_
    rintro e w1 ⟨rfl, hb1⟩
    have HB1 := Lib.hid (below_step HB0.out hb1)
    obtain ⟨q0, q1, q2, q3, q4, q5, q6, q7⟩ := (HX0.out.bel hb1).all
    have HK1 := Lib.hid (HK.out w1 hb1)
    clear hb1 HK
    go_wp2_with fail
    refine HK1.out.mono ?_
    rintro e w2 ⟨rfl, hb2⟩
    have HB2 := Lib.hid (below_step HB1.out hb2)
    clear hb2
    go_wp2_with fail
    go_ret
    exact ⟨rfl, HB2.out⟩
theorem all_calls (x : E) : AllC x := by
  refine E.ind (P := AllC) (fun op name n kids ih => all_step _ ih) x
def checkF (x : E) : Int := if 60 < deepF 1000 x then 42 else if allF x = true then 0 else 9
set_option maxHeartbeats 4000000 in
theorem Check_calls (x : E) (A : Option Addr) (c : Nat) (w : World) (ok : Nat → Prop) (h : SumR w ok x [.string x.op, .string x.name, .int .i64 x.num, .slice A x.kids.length c]) (hz : SzE x) (hT : Tab w) :
    Calls Tryd.prog 12 #[sumV x A c] w fun e w' => e = .returned (.int .i64 (checkF x)) ∧ Below w.heap.size w w' := by
  unfold checkF
  have hb0 := (Below.refl _ w).alloc (Nat.le_refl _) (.cells #[.string x.op, .string x.name, .int .i64 x.num, .slice A x.kids.length c] 25)
  have HB0 := Lib.hid hb0
  have HX0 := Lib.hid (Bx.new w #[.string x.op, .string x.name, .int .i64 x.num, .slice A x.kids.length c])
  have HC := Lib.hid (Deep_calls x A c _ ok (h.bel hb0))
  have HK := Lib.hid (fun (W : World) (hW : Below (w.alloc (.cells #[.string x.op, .string x.name, .int .i64 x.num, .slice A x.kids.length c] 25)).heap.size (w.alloc (.cells #[.string x.op, .string x.name, .int .i64 x.num, .slice A x.kids.length c] 25)) W) =>
    (show Calls Tryd.prog 23 #[.agg #[.string x.op, .string x.name, .int .i64 x.num, .slice A x.kids.length c]] W _ from all_calls x A c W ok ((h.bel hb0).bel hW) hz ((hT.below hb0).below hW)))
  clear h hb0 hz hT
  by_cases hd : 60 < deepF 1000 x
  · rw [if_pos hd]
    have hdb : decide ((60 : Int) < (deepF 1000 x : Nat)) = true := decide_eq_true (by omega)
    have hdc : decide (60 < deepF 1000 x) = true := decide_eq_true hd
    generalize deepF 1000 x = dd at *
    clear hd HK
    go_enter Tryd.func12, Tryd.ntmps12
    go_wp2_with fail
    refine HC.out.mono ?_
    rintro e w1 ⟨rfl, hb1⟩
    have HB1 := Lib.hid (below_step HB0.out hb1)
    clear hb1
    go_wp2_with fail
    go_ret
    exact ⟨rfl, HB1.out⟩
  · rw [if_neg hd]
    have hdb : decide ((60 : Int) < (deepF 1000 x : Nat)) = false := decide_eq_false (by omega)
    have hdc : decide (60 < deepF 1000 x) = false := decide_eq_false hd
    generalize deepF 1000 x = dd at *
    clear hd
    cases ha : allF x with
    | true =>
      rw [ha] at HK
      rw [if_pos rfl]
      clear ha
      go_enter Tryd.func12, Tryd.ntmps12
      go_wp2_with fail
      refine HC.out.mono ?_
      rintro e w1 ⟨rfl, hb1⟩
      have HB1 := Lib.hid (below_step HB0.out hb1)
      obtain ⟨q0, q1, q2, q3, q4, q5, q6, q7⟩ := (HX0.out.bel hb1).all
      have HK1 := Lib.hid (HK.out w1 hb1)
      clear hb1 HK
      go_wp2_with fail
      refine HK1.out.mono ?_
      rintro e w2 ⟨rfl, hb2⟩
      have HB2 := Lib.hid (below_step HB1.out hb2)
      clear hb2
      go_wp2_with fail
      go_ret
      exact ⟨rfl, HB2.out⟩
    | false =>
      rw [ha] at HK
      rw [if_neg (by decide)]
      clear ha
      go_enter Tryd.func12, Tryd.ntmps12
      go_wp2_with fail
      refine HC.out.mono ?_
      rintro e w1 ⟨rfl, hb1⟩
      have HB1 := Lib.hid (below_step HB0.out hb1)
      obtain ⟨q0, q1, q2, q3, q4, q5, q6, q7⟩ := (HX0.out.bel hb1).all
      have HK1 := Lib.hid (HK.out w1 hb1)
      clear hb1 HK
      go_wp2_with fail
      refine HK1.out.mono ?_
      rintro e w2 ⟨rfl, hb2⟩
      have HB2 := Lib.hid (below_step HB1.out hb2)
      clear hb2
      go_wp2_with fail
      go_ret
      exact ⟨rfl, HB2.out⟩
end Go.Proofs.YtlbgnpllbogkeaaDoor.Ext

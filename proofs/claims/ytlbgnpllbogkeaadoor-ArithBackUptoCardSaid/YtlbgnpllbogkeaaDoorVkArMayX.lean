/- Proved: arith.all's and Check's calls, Plain's, whatever expression. Conditions: its names have at most 10 to the 9 octets; the table of blanks holds what its initialiser lays. Proved: arith.single's, all's and Check's calls, Plain's, whatever expression. Conditions: its names have at most 10 to the 9 octets; the table of blanks holds what its initialiser lays. -/
import Derived.Test.YtlbgnpllbogkeaaDoorVkArTxt
import Derived.Test.YtlbgnpllbogkeaaDoorVkArAlive
section
set_option linter.unusedVariables false
set_option linter.unusedSimpArgs false
namespace Go.Proofs.YtlbgnpllbogkeaaDoor.Ext
open Go.RowKit Go.Proofs.YtlbgnpllbogkeaaDoorW.PrintWords
theorem set_singles : SetOf ⟨#[33, 32, 126, 32, 110, 101, 103]⟩ singlesL := ⟨by decide, by decide, by decide, by decide, by decide⟩
theorem set_steps : SetOf ⟨#[112, 114, 101, 43, 43, 32, 112, 114, 101, 45, 45, 32, 112, 111, 115, 116, 43, 43, 32, 112, 111, 115, 116, 45, 45]⟩ stepsL := ⟨by decide, by decide, by decide, by decide, by decide⟩
theorem set_doubles : SetOf ⟨#[42, 32, 47, 32, 37, 32, 43, 32, 45, 32, 60, 60, 32, 62, 62, 32, 60, 32, 60, 61, 32, 62, 32, 62, 61, 32, 61, 61, 32, 33, 61, 32, 38, 32, 94, 32, 124, 32, 38, 38, 32, 124, 124, 32, 44, 32, 42, 42]⟩ doublesL := ⟨by decide, by decide, by decide, by decide, by decide⟩
theorem count_cases (op : ByteArray) : (inL singlesL op = true ∧ countF op = (1, false)) ∨ (inL singlesL op = false ∧ inL stepsL op = true ∧ countF op = (1, true)) ∨ (inL singlesL op = false ∧ inL stepsL op = false ∧ inL assignsL op = true ∧ countF op = (2, true)) ∨
    (inL singlesL op = false ∧ inL stepsL op = false ∧ inL assignsL op = false ∧ inL doublesL op = true ∧ countF op = (2, false)) ∨ (inL singlesL op = false ∧ inL stepsL op = false ∧ inL assignsL op = false ∧ inL doublesL op = false ∧ op = sTern ∧ countF op = (3, false)) ∨
    (inL singlesL op = false ∧ inL stepsL op = false ∧ inL assignsL op = false ∧ inL doublesL op = false ∧ ¬ op = sTern ∧ countF op = (-1, false)) := by
  unfold countF
  cases h1 : inL singlesL op
  · cases h2 : inL stepsL op
    · cases h3 : inL assignsL op
      · cases h4 : inL doublesL op
        · by_cases h5 : op = sTern
          · rw [if_pos h5]; simp [h5]
          · rw [if_neg h5]; simp [h5]
        · simp
      · simp
    · simp
  · simp
theorem op_ne {op b : ByteArray} (h : ¬ op = b) : (op.toList == b.data.toList) = false := by
  rw [beq_eq_false_iff_ne, Lib.toList_data]
  exact fun e => h (ba_eq e)
set_option maxHeartbeats 4000000 in
theorem count_calls (op : ByteArray) (w : World) (hT : Tab w) :
    Calls Tryd.prog 58 #[.string op] w fun e w' => e = .returned (.tuple #[.int .i64 (countF op).1, .bool (countF op).2]) ∧ Below w.heap.size w w' := by
  have H1 := Lib.hid (fun W hT => in_calls _ _ op W set_singles hT)
  have H2 := Lib.hid (fun W hT => in_calls _ _ op W set_steps hT)
  have H3 := Lib.hid (fun W hT => in_calls _ _ op W set_assigns hT)
  have H4 := Lib.hid (fun W hT => in_calls _ _ op W set_doubles hT)
  have HT := Lib.hid hT
  clear hT
  rcases count_cases op with ⟨h1, hc⟩ | ⟨h1, h2, hc⟩ | ⟨h1, h2, h3, hc⟩ | ⟨h1, h2, h3, h4, hc⟩ | ⟨h1, h2, h3, h4, h5, hc⟩ | ⟨h1, h2, h3, h4, h5, hc⟩
  · rw [hc]
    rw [h1] at H1
    clear h1 hc
    go_enter Tryd.func58, Tryd.ntmps58
    go_wp2_with fail
    refine (H1.out w HT.out).mono ?_
    rintro e w1 ⟨rfl, hb1⟩
    have HB1 := Lib.hid (hb1)
    have HT1 := Lib.hid (HT.out.below hb1)
    clear hb1
    go_wp2_with fail
    go_ret2
    exact ⟨rfl, HB1.out⟩
  · rw [hc]
    rw [h1] at H1
    rw [h2] at H2
    clear h1 h2 hc
    go_enter Tryd.func58, Tryd.ntmps58
    go_wp2_with fail
    refine (H1.out w HT.out).mono ?_
    rintro e w1 ⟨rfl, hb1⟩
    have HB1 := Lib.hid (hb1)
    have HT1 := Lib.hid (HT.out.below hb1)
    clear hb1
    go_wp2_with fail
    refine (H2.out w1 HT1.out).mono ?_
    rintro e w2 ⟨rfl, hb2⟩
    have HB2 := Lib.hid (below_step HB1.out hb2)
    have HT2 := Lib.hid (HT1.out.below hb2)
    clear hb2
    go_wp2_with fail
    go_ret2
    exact ⟨rfl, HB2.out⟩
  · rw [hc]
    rw [h1] at H1
    rw [h2] at H2
    rw [h3] at H3
    clear h1 h2 h3 hc
    go_enter Tryd.func58, Tryd.ntmps58
    go_wp2_with fail
    refine (H1.out w HT.out).mono ?_
    rintro e w1 ⟨rfl, hb1⟩
    have HB1 := Lib.hid (hb1)
    have HT1 := Lib.hid (HT.out.below hb1)
    clear hb1
    go_wp2_with fail
    refine (H2.out w1 HT1.out).mono ?_
    rintro e w2 ⟨rfl, hb2⟩
    have HB2 := Lib.hid (below_step HB1.out hb2)
    have HT2 := Lib.hid (HT1.out.below hb2)
    clear hb2
    go_wp2_with fail
    refine (H3.out w2 HT2.out).mono ?_
    rintro e w3 ⟨rfl, hb3⟩
    have HB3 := Lib.hid (below_step HB2.out hb3)
    have HT3 := Lib.hid (HT2.out.below hb3)
    clear hb3
    go_wp2_with fail
    go_ret2
    exact ⟨rfl, HB3.out⟩
  · rw [hc]
    rw [h1] at H1
    rw [h2] at H2
    rw [h3] at H3
    rw [h4] at H4
    clear h1 h2 h3 h4 hc
    go_enter Tryd.func58, Tryd.ntmps58
    go_wp2_with fail
    refine (H1.out w HT.out).mono ?_
    rintro e w1 ⟨rfl, hb1⟩
    have HB1 := Lib.hid (hb1)
    have HT1 := Lib.hid (HT.out.below hb1)
    clear hb1
    go_wp2_with fail
    refine (H2.out w1 HT1.out).mono ?_
    rintro e w2 ⟨rfl, hb2⟩
    have HB2 := Lib.hid (below_step HB1.out hb2)
    have HT2 := Lib.hid (HT1.out.below hb2)
    clear hb2
    go_wp2_with fail
    refine (H3.out w2 HT2.out).mono ?_
    rintro e w3 ⟨rfl, hb3⟩
    have HB3 := Lib.hid (below_step HB2.out hb3)
    have HT3 := Lib.hid (HT2.out.below hb3)
    clear hb3
    go_wp2_with fail
    refine (H4.out w3 HT3.out).mono ?_
    rintro e w4 ⟨rfl, hb4⟩
    have HB4 := Lib.hid (below_step HB3.out hb4)
    have HT4 := Lib.hid (HT3.out.below hb4)
    clear hb4
    go_wp2_with fail
    go_ret2
    exact ⟨rfl, HB4.out⟩
  · rw [hc]
    rw [h1] at H1
    rw [h2] at H2
    rw [h3] at H3
    rw [h4] at H4
    subst h5
    clear h1 h2 h3 h4 hc
    go_enter Tryd.func58, Tryd.ntmps58
    go_wp2_with fail
    refine (H1.out w HT.out).mono ?_
    rintro e w1 ⟨rfl, hb1⟩
    have HB1 := Lib.hid (hb1)
    have HT1 := Lib.hid (HT.out.below hb1)
    clear hb1
    go_wp2_with fail
    refine (H2.out w1 HT1.out).mono ?_
    rintro e w2 ⟨rfl, hb2⟩
    have HB2 := Lib.hid (below_step HB1.out hb2)
    have HT2 := Lib.hid (HT1.out.below hb2)
    clear hb2
    go_wp2_with fail
    refine (H3.out w2 HT2.out).mono ?_
    rintro e w3 ⟨rfl, hb3⟩
    have HB3 := Lib.hid (below_step HB2.out hb3)
    have HT3 := Lib.hid (HT2.out.below hb3)
    clear hb3
    go_wp2_with fail
    refine (H4.out w3 HT3.out).mono ?_
    rintro e w4 ⟨rfl, hb4⟩
    have HB4 := Lib.hid (below_step HB3.out hb4)
    have HT4 := Lib.hid (HT3.out.below hb4)
    clear hb4
    go_wp2_with fail
    go_ret2
    exact ⟨rfl, HB4.out⟩
  · rw [hc]
    rw [h1] at H1
    rw [h2] at H2
    rw [h3] at H3
    rw [h4] at H4
    have h6 := op_ne h5
    clear h5
    clear h1 h2 h3 h4 hc
    go_enter Tryd.func58, Tryd.ntmps58
    go_wp2_with fail
    refine (H1.out w HT.out).mono ?_
    rintro e w1 ⟨rfl, hb1⟩
    have HB1 := Lib.hid (hb1)
    have HT1 := Lib.hid (HT.out.below hb1)
    clear hb1
    go_wp2_with fail
    refine (H2.out w1 HT1.out).mono ?_
    rintro e w2 ⟨rfl, hb2⟩
    have HB2 := Lib.hid (below_step HB1.out hb2)
    have HT2 := Lib.hid (HT1.out.below hb2)
    clear hb2
    go_wp2_with fail
    refine (H3.out w2 HT2.out).mono ?_
    rintro e w3 ⟨rfl, hb3⟩
    have HB3 := Lib.hid (below_step HB2.out hb3)
    have HT3 := Lib.hid (HT2.out.below hb3)
    clear hb3
    go_wp2_with fail
    refine (H4.out w3 HT3.out).mono ?_
    rintro e w4 ⟨rfl, hb4⟩
    have HB4 := Lib.hid (below_step HB3.out hb4)
    have HT4 := Lib.hid (HT3.out.below hb4)
    clear hb4
    go_wp2_with fail
    go_ret2
    exact ⟨rfl, HB4.out⟩
/-- The names of an expression are not long. -/
def SzE (x : E) : Prop := anyE (fun y => decide (1000000000 < y.name.size)) x = false
theorem SzE.here {x : E} (h : SzE x) : x.name.size ≤ 1000000000 := by
  unfold SzE at h
  rw [anyE_eq, Bool.or_eq_false_iff] at h
  have := of_decide_eq_false h.1
  omega
theorem SzE.kid {x k : E} (h : SzE x) (hk : k ∈ x.kids) : SzE k := by
  unfold SzE at h ⊢
  rw [anyE_eq, Bool.or_eq_false_iff, List.any_eq_false] at h
  have := h.2 k hk
  simpa using this
/-- What a function value answers of each kid. -/
def GivesS (fn : Nat) (lb : Array Value) (p : E → Bool) (ok : Nat → Prop) (w : World) (kids : List E) : Prop :=
  ∀ k ∈ kids, ∀ (A : Option Addr) (c : Nat) (W : World), Below w.heap.size w W → SumR W ok k [.string k.op, .string k.name, .int .i64 k.num, .slice A k.kids.length c] → Calls Tryd.prog fn (#[sumV k A c] ++ lb) W fun e W' => e = .returned (.bool (p k)) ∧ Below W.heap.size W W'
set_option maxHeartbeats 4000000 in
set_option maxRecDepth 100000 in
theorem indexS_calls (fn : Nat) (lb : Array Value) (eg : ∀ args w, (callFunc fn args).run Tryd.prog w = .ok (.enter fn args) w) (p : E → Bool) (x : E) (A : Option Addr) (c : Nat) (w : World) (ok : Nat → Prop)
    (h : SumR w ok x [.string x.op, .string x.name, .int .i64 x.num, .slice A x.kids.length c]) (hg : GivesS fn lb p ok w x.kids) :
    Calls Tryd.prog 59 #[.slice A x.kids.length c, .func (.func fn) #[] lb] w fun e w' => (∃ r : Int, e = .returned (.int .i64 r) ∧ decide (r ≥ 0) = x.kids.any p) ∧ Below w.heap.size w w' := by
  have hmx : x.kids.length ≤ 9223372036854775807 := by obtain ⟨_, _, _, _, hm⟩ := h.inv; exact hm
  have HS := Lib.hid h
  have HG := Lib.hid hg
  clear h hg
  go_enter Tryd.func59, Tryd.ntmps59
  go_wp2
  go_loopw [8] (fun v wr => ∃ (i : Nat), v = .int .i64 (i : Int) ∧ i ≤ x.kids.length ∧ (x.kids.take i).any p = false ∧ Below w.heap.size w wr) (fun v _ => x.kids.length - (intOf v).toNat)
  case atStart => exact ⟨0, rfl, Nat.zero_le _, rfl, Below.refl _ _⟩
  case round =>
    obtain ⟨i, rfl, hi, hno, hB⟩ := hrel
    have HB := Lib.hid hB
    clear hB
    by_cases hlt : i < x.kids.length
    · have hd : decide ((i : Int) < (x.kids.length : Int)) = true := decide_eq_true (by omega)
      have hg := List.getElem?_eq_getElem hlt
      obtain ⟨ad, A1, c1, hAe, hS1, x0, x1, x2, x3⟩ := (HS.out.bel HB.out).kid hg
      subst hAe
      have hmem := List.getElem_mem hlt
      have HC := Lib.hid (HG.out _ hmem A1 c1 wr HB.out hS1)
      have hstep : (x.kids.take (i + 1)).any p = p x.kids[i] := by
        rw [List.take_add_one, hg, List.any_append, hno]
        simp
      have HST := Lib.hid hstep
      have HNO := Lib.hid hno
      have HMEM := Lib.hid hmem
      generalize x.kids[i] = kj at *
      clear hno hstep hS1 hmem
      go_wp2_with fail
      refine HC.out.mono ?_
      rintro e w1 ⟨rfl, hb2⟩
      have HB2 := Lib.hid (below_step HB.out hb2)
      clear hb2
      cases hn : p kj
      · go_wp2_with fail
        go_roundw
        case rel => exact ⟨i + 1, by simp, by omega, by rw [HST.out, hn], HB2.out⟩
        case measure => simp [intOf]; omega
      · go_wp2_with fail
        go_ret
        refine ⟨⟨_, rfl, ?_⟩, HB2.out⟩
        rw [decide_eq_true (by omega)]
        symm
        rw [List.any_eq_true]
        exact ⟨_, HMEM.out, hn⟩
    · obtain rfl : i = x.kids.length := by omega
      have hd : decide ((x.kids.length : Int) < (x.kids.length : Int)) = false := decide_eq_false (by omega)
      rw [List.take_length] at hno
      have HNO := Lib.hid hno
      clear hno
      go_wp2_with fail
      go_ret
      refine ⟨⟨_, rfl, ?_⟩, HB.out⟩
      rw [HNO.out]
      rfl
set_option maxHeartbeats 2000000 in
theorem containsS_calls (fn : Nat) (lb : Array Value) (eg : ∀ args w, (callFunc fn args).run Tryd.prog w = .ok (.enter fn args) w) (p : E → Bool) (x : E) (A : Option Addr) (c : Nat) (w : World) (ok : Nat → Prop)
    (h : SumR w ok x [.string x.op, .string x.name, .int .i64 x.num, .slice A x.kids.length c]) (hg : GivesS fn lb p ok w x.kids) :
    Calls Tryd.prog 36 #[.slice A x.kids.length c, .func (.func fn) #[] lb] w fun e w' => e = .returned (.bool (x.kids.any p)) ∧ Below w.heap.size w w' := by
  have HI := Lib.hid (indexS_calls fn lb eg p x A c w ok h hg)
  clear h hg
  go_enter Tryd.func36, Tryd.ntmps36
  go_wp2_with fail
  refine HI.out.mono ?_
  rintro e w1 ⟨⟨r, rfl, hr⟩, hb2⟩
  have HB2 := Lib.hid hb2
  have HR := Lib.hid hr
  clear hb2 hr
  go_wp2_with fail
  go_ret
  exact ⟨by rw [← HR.out]; rfl, HB2.out⟩
end Go.Proofs.YtlbgnpllbogkeaaDoor.Ext
end

section
set_option linter.unusedVariables false
set_option linter.unusedSimpArgs false
namespace Go.Proofs.YtlbgnpllbogkeaaDoor.Ext
open Go.RowKit Go.Proofs.YtlbgnpllbogkeaaDoorW.PrintWords
theorem int_eq0 {n : Int} (h : n = 0) : (n == 0) = true := beq_iff_eq.2 h
theorem int_ne0 {n : Int} (h : ¬ n = 0) : (n == 0) = false := beq_eq_false_iff_ne.2 h
theorem single_leaf {x : E} (h : x.op.size = 0) : singleF x = (decide (x.kids.length = 0) && (decide (0 ≤ x.num) && (decide (x.name.size = 0) || (decide (x.num = 0) && nameOf x.name)))) := by
  unfold singleF
  rw [if_pos h]
theorem single_node {x : E} (h : ¬ x.op.size = 0) : singleF x = (decide (x.name.size = 0) && (decide (x.num = 0) && (decide ((x.kids.length : Int) = (countF x.op).1) && (!(countF x.op).2 || headVar x.kids)))) := by
  unfold singleF
  rw [if_neg h]
theorem name_calls' (b : ByteArray) (w : World) (h : b.size ≤ 1000000000) : Calls Tryd.prog 50 #[.string b] w fun e w' => e = .returned (.bool (nameOf b)) ∧ Below w.heap.size w w' := by
  refine (octets_Name.calls b (nameOf b) w ?_).mono fun e w' h => h
  unfold nameOf octets_Name.f
  rw [if_pos h]
  rfl
theorem count_bounds (op : ByteArray) : -1 ≤ (countF op).1 ∧ (countF op).1 ≤ 3 ∧ ((countF op).2 = true → 1 ≤ (countF op).1) := by
  rcases count_cases op with ⟨_, h⟩ | ⟨_, _, h⟩ | ⟨_, _, _, h⟩ | ⟨_, _, _, _, h⟩ | ⟨_, _, _, _, _, h⟩ | ⟨_, _, _, _, _, h⟩ <;> rw [h] <;> decide
set_option maxHeartbeats 8000000 in
set_option maxRecDepth 100000 in
theorem single_calls (x : E) (A : Option Addr) (c : Nat) (w : World) (ok : Nat → Prop) (h : SumR w ok x [.string x.op, .string x.name, .int .i64 x.num, .slice A x.kids.length c]) (hz : x.name.size ≤ 1000000000) (hT : Tab w) :
    Calls Tryd.prog 35 #[sumV x A c] w fun e w' => e = .returned (.bool (singleF x)) ∧ Below w.heap.size w w' := by
  have hmx : x.kids.length ≤ 9223372036854775807 := by obtain ⟨_, _, _, _, hm⟩ := h.inv; exact hm
  have hb0 := (Below.refl _ w).alloc (Nat.le_refl _) (.cells #[.string x.op, .string x.name, .int .i64 x.num, .slice A x.kids.length c] 25)
  have HB0 := Lib.hid hb0
  have HS0 := Lib.hid (h.bel hb0)
  have HX0 := Lib.hid (Bx.new w #[.string x.op, .string x.name, .int .i64 x.num, .slice A x.kids.length c])
  have HT0 := Lib.hid (hT.below hb0)
  by_cases h1 : x.op.size = 0
  · have e1 := emp_true h1
    rw [single_leaf h1]
    clear HS0 h h1
    by_cases h2 : x.kids.length = 0
    · have e2 : ((x.kids.length : Int) == 0) = true := beq_iff_eq.2 (by omega)
      rw [decide_eq_true h2]
      by_cases h3 : 0 ≤ x.num
      · have e3 : decide (0 ≤ x.num) = true := decide_eq_true h3
        rw [e3]
        by_cases h4 : x.name.size = 0
        · have e4 := emp_true h4
          rw [decide_eq_true h4]
          clear h2 h3 h4 hb0 hmx hT
          go_enter Tryd.func35, Tryd.ntmps35
          go_wp2_with fail
          go_ret
          exact ⟨rfl, HB0.out⟩
        · have e4 := emp_false h4
          rw [decide_eq_false h4]
          by_cases h5 : x.num = 0
          · have e5 := int_eq0 h5
            rw [decide_eq_true h5]
            have HN := Lib.hid (fun W => name_calls' x.name W hz)
            clear h2 h3 h4 h5 hb0 hmx hT
            go_enter Tryd.func35, Tryd.ntmps35
            go_wp2_with fail
            refine (HN.out _).mono ?_
            rintro e w1 ⟨rfl, hb1⟩
            have HB1 := Lib.hid (below_step HB0.out hb1)
            clear hb1
            go_wp2_with fail
            go_ret
            exact ⟨rfl, HB1.out⟩
          · have e5 := int_ne0 h5
            rw [decide_eq_false h5]
            clear h2 h3 h4 h5 hb0 hmx hT
            go_enter Tryd.func35, Tryd.ntmps35
            go_wp2_with fail
            go_ret
            exact ⟨rfl, HB0.out⟩
      · have e3 : decide (0 ≤ x.num) = false := decide_eq_false h3
        rw [e3]
        clear h2 h3 hb0 hmx hT
        go_enter Tryd.func35, Tryd.ntmps35
        go_wp2_with fail
        go_ret
        exact ⟨rfl, HB0.out⟩
    · have e2 : ((x.kids.length : Int) == 0) = false := beq_eq_false_iff_ne.2 (by omega)
      rw [decide_eq_false h2]
      clear h2 hb0 hmx hT
      go_enter Tryd.func35, Tryd.ntmps35
      go_wp2_with fail
      go_ret
      exact ⟨rfl, HB0.out⟩
  · have e1 := emp_false h1
    rw [single_node h1]
    have hcb := count_bounds x.op
    have HC := Lib.hid (count_calls x.op _ HT0.out)
    generalize countF x.op = R at *
    obtain ⟨n, fst⟩ := R
    dsimp only at hcb HC ⊢
    by_cases h2 : x.name.size = 0
    · have e2 := emp_true h2
      rw [decide_eq_true h2]
      by_cases h3 : x.num = 0
      · have e3 := int_eq0 h3
        rw [decide_eq_true h3]
        by_cases h4 : (x.kids.length : Int) = n
        · have e4 : ((x.kids.length : Int) == n) = true := beq_iff_eq.2 h4
          rw [decide_eq_true h4]
          cases fst with
          | false =>
            clear h2 h3 h4 hb0 h1 h hcb hT HS0
            go_enter Tryd.func35, Tryd.ntmps35
            go_wp2_with fail
            refine (HC.out).mono ?_
            rintro e w1 ⟨rfl, hb1⟩
            have HB1 := Lib.hid (below_step HB0.out hb1)
            obtain ⟨q0, q1, q2, q3, q4, q5, q6, q7⟩ := (HX0.out.bel hb1).all
            clear hb1
            go_wp2_with fail
            go_ret
            exact ⟨rfl, HB1.out⟩
          | true =>
            have hp : 0 < x.kids.length := by have := hcb.2.2 rfl; omega
            have hk : x.kids[0]? = some x.kids[0] := List.getElem?_eq_getElem hp
            have hhv : headVar x.kids = isVar x.kids[0] := by
              have : ∀ (l : List E) (hl : 0 < l.length), headVar l = isVar l[0] := by
                intro l hl
                cases l with
                | nil => simp at hl
                | cons a b => rfl
              exact this _ hp
            rw [hhv]
            have HKID := Lib.hid (fun (W : World) (hW : Below (w.alloc (.cells #[.string x.op, .string x.name, .int .i64 x.num, .slice A x.kids.length c] 25)).heap.size (w.alloc (.cells #[.string x.op, .string x.name, .int .i64 x.num, .slice A x.kids.length c] 25)) W) => (HS0.out.bel hW).kid hk)
            have hlp : (0 : Int) < (x.kids.length : Int) := by omega
            have HVC := Lib.hid (fun A n c W => variable_calls x.kids[0] A n c W)
            generalize x.kids[0] = k0 at *
            have hlp2 : decide ((0 : Int) < (x.kids.length : Int)) = true := decide_eq_true hlp
            clear h2 h3 h4 hb0 h1 h hcb hT hk hhv
            go_enter Tryd.func35, Tryd.ntmps35
            go_wp2_with fail
            refine (HC.out).mono ?_
            rintro e w1 ⟨rfl, hb1⟩
            have HB1 := Lib.hid (below_step HB0.out hb1)
            obtain ⟨q0, q1, q2, q3, q4, q5, q6, q7⟩ := (HX0.out.bel hb1).all
            obtain ⟨ad, A1, c1, hAe, hS1, x0, x1, x2, x3⟩ := HKID.out w1 hb1
            subst hAe
            replace x0 : w1.cell? ad = some (.string k0.op) := x0
            replace x1 : w1.cell? ⟨ad.block, ad.off + 1, none⟩ = some (.string k0.name) := x1
            replace x2 : w1.cell? ⟨ad.block, ad.off + 2, none⟩ = some (.int .i64 k0.num) := x2
            replace x3 : w1.cell? ⟨ad.block, ad.off + 3, none⟩ = some (.slice A1 k0.kids.length c1) := x3
            clear hb1 hS1
            go_wp2_with fail
            refine (HVC.out A1 k0.kids.length c1 w1).mono ?_
            rintro e w2 ⟨rfl, hb2⟩
            have HB2 := Lib.hid (below_step HB1.out hb2)
            clear hb2
            go_wp2_with fail
            go_ret
            exact ⟨rfl, HB2.out⟩
        · have e4 : ((x.kids.length : Int) == n) = false := beq_eq_false_iff_ne.2 h4
          rw [decide_eq_false h4]
          clear h2 h3 h4 hb0 h1 h hcb hT HS0
          go_enter Tryd.func35, Tryd.ntmps35
          go_wp2_with fail
          refine (HC.out).mono ?_
          rintro e w1 ⟨rfl, hb1⟩
          have HB1 := Lib.hid (below_step HB0.out hb1)
          obtain ⟨q0, q1, q2, q3, q4, q5, q6, q7⟩ := (HX0.out.bel hb1).all
          clear hb1
          go_wp2_with fail
          go_ret
          exact ⟨rfl, HB1.out⟩
      · have e3 := int_ne0 h3
        rw [decide_eq_false h3]
        clear h2 h3 hb0 h1 h hcb hT HS0
        go_enter Tryd.func35, Tryd.ntmps35
        go_wp2_with fail
        refine (HC.out).mono ?_
        rintro e w1 ⟨rfl, hb1⟩
        have HB1 := Lib.hid (below_step HB0.out hb1)
        obtain ⟨q0, q1, q2, q3, q4, q5, q6, q7⟩ := (HX0.out.bel hb1).all
        clear hb1
        go_wp2_with fail
        go_ret
        exact ⟨rfl, HB1.out⟩
    · have e2 := emp_false h2
      rw [decide_eq_false h2]
      clear h2 hb0 h1 h hcb hT HS0
      go_enter Tryd.func35, Tryd.ntmps35
      go_wp2_with fail
      refine (HC.out).mono ?_
      rintro e w1 ⟨rfl, hb1⟩
      have HB1 := Lib.hid (below_step HB0.out hb1)
      obtain ⟨q0, q1, q2, q3, q4, q5, q6, q7⟩ := (HX0.out.bel hb1).all
      clear hb1
      go_wp2_with fail
      go_ret
      exact ⟨rfl, HB1.out⟩
def AllC (x : E) : Prop := ∀ (A : Option Addr) (c : Nat) (w : World) (ok : Nat → Prop), SumR w ok x [.string x.op, .string x.name, .int .i64 x.num, .slice A x.kids.length c] → SzE x → Tab w →
    Calls Tryd.prog 23 #[sumV x A c] w fun e w' => e = .returned (.bool (allF x)) ∧ Below w.heap.size w w'
set_option maxHeartbeats 2000000 in
theorem all1_calls (x : E) (ih : AllC x) (A : Option Addr) (c : Nat) (w : World) (ok : Nat → Prop) (h : SumR w ok x [.string x.op, .string x.name, .int .i64 x.num, .slice A x.kids.length c]) (hz : SzE x) (hT : Tab w) :
    Calls Tryd.prog 37 #[sumV x A c] w fun e w' => e = .returned (.bool (!allF x)) ∧ Below w.heap.size w w' := by
  have hb0 := (Below.refl _ w).alloc (Nat.le_refl _) (.cells #[.string x.op, .string x.name, .int .i64 x.num, .slice A x.kids.length c] 25)
  have HC := Lib.hid (show Calls Tryd.prog 23 #[.agg #[.string x.op, .string x.name, .int .i64 x.num, .slice A x.kids.length c]] _ _ from ih A c _ ok (h.bel hb0) hz (hT.below hb0))
  have HB0 := Lib.hid hb0
  generalize allF x = b at *
  clear h hb0 ih hz hT
  go_enter Tryd.func37, Tryd.ntmps37
  go_wp2_with fail
  refine HC.out.mono ?_
  rintro e w1 ⟨rfl, hb1⟩
  have HB1 := Lib.hid (below_step HB0.out hb1)
  clear hb1
  go_wp2_with fail
  go_ret
  exact ⟨rfl, HB1.out⟩
set_option maxHeartbeats 4000000 in
theorem all_step (x : E) (ih : ∀ k ∈ x.kids, AllC k) : AllC x := by
  intro A c w ok h hz hT
  rw [allF_eq]
  have hb0 := (Below.refl _ w).alloc (Nat.le_refl _) (.cells #[.string x.op, .string x.name, .int .i64 x.num, .slice A x.kids.length c] 25)
  have HB0 := Lib.hid hb0
  have HX0 := Lib.hid (Bx.new w #[.string x.op, .string x.name, .int .i64 x.num, .slice A x.kids.length c])
  have HC := Lib.hid (show Calls Tryd.prog 35 #[.agg #[.string x.op, .string x.name, .int .i64 x.num, .slice A x.kids.length c]] _ _ from single_calls x A c _ ok (h.bel hb0) hz.here (hT.below hb0))
  have HK := Lib.hid (fun (W : World) (hW : Below (w.alloc (.cells #[.string x.op, .string x.name, .int .i64 x.num, .slice A x.kids.length c] 25)).heap.size (w.alloc (.cells #[.string x.op, .string x.name, .int .i64 x.num, .slice A x.kids.length c] 25)) W) =>
    (show Calls Tryd.prog 36 #[.slice A x.kids.length c, .func (.func 37) #[] #[]] W _ from
    containsS_calls 37 #[] (enters_of Tryd.func37 (by kernel_rfl) rfl) (fun k => !allF k) x A c W ok ((h.bel hb0).bel hW)
      (fun k hk A1 c1 W1 hW1 hS1 => all1_calls k (ih k hk) A1 c1 W1 ok hS1 (hz.kid hk) (((hT.below hb0).below hW).below hW1))))
  generalize x.kids.any (fun k => !allF k) = b at *
  clear h hb0 ih hz hT
  cases hs : singleF x with
  | false =>
    rw [hs] at HC
    clear hs HK
    go_enter Tryd.func23, Tryd.ntmps23
    go_wp2_with fail
    refine HC.out.mono ?_
    rintro e w1 ⟨rfl, hb1⟩
    have HB1 := Lib.hid (below_step HB0.out hb1)
    clear hb1
    go_wp2_with fail
    go_ret
    exact ⟨rfl, HB1.out⟩
  | true =>
    rw [hs] at HC
    clear hs
    go_enter Tryd.func23, Tryd.ntmps23
    go_wp2_with fail
    refine HC.out.mono ?_
    rintro e w1 ⟨rfl, hb1⟩
    have HB1 := Lib.hid (below_step HB0.out hb1)
    obtain ⟨q0, q1, q2, q3, q4, q5, q6, q7⟩ := (HX0.out.bel hb1).all
    have HK1 := Lib.hid (HK.out w1 hb1)
    clear hb1 HK
    go_wp2_with fail
    refine HK1.out.mono ?_
    rintro e w2 ⟨rfl, hb2⟩
    have HB2 := Lib.hid (below_step HB1.out hb2)
    clear hb2
    go_wp2_with fail
    go_ret
    exact ⟨rfl, HB2.out⟩
theorem all_calls (x : E) : AllC x := by
  refine E.ind (P := AllC) (fun op name n kids ih => all_step _ ih) x
def checkF (x : E) : Int := if 60 < deepF 1000 x then 42 else if allF x = true then 0 else 9
set_option maxHeartbeats 4000000 in
theorem Check_calls (x : E) (A : Option Addr) (c : Nat) (w : World) (ok : Nat → Prop) (h : SumR w ok x [.string x.op, .string x.name, .int .i64 x.num, .slice A x.kids.length c]) (hz : SzE x) (hT : Tab w) :
    Calls Tryd.prog 12 #[sumV x A c] w fun e w' => e = .returned (.int .i64 (checkF x)) ∧ Below w.heap.size w w' := by
  unfold checkF
  have hb0 := (Below.refl _ w).alloc (Nat.le_refl _) (.cells #[.string x.op, .string x.name, .int .i64 x.num, .slice A x.kids.length c] 25)
  have HB0 := Lib.hid hb0
  have HX0 := Lib.hid (Bx.new w #[.string x.op, .string x.name, .int .i64 x.num, .slice A x.kids.length c])
  have HC := Lib.hid (Deep_calls x A c _ ok (h.bel hb0))
  have HK := Lib.hid (fun (W : World) (hW : Below (w.alloc (.cells #[.string x.op, .string x.name, .int .i64 x.num, .slice A x.kids.length c] 25)).heap.size (w.alloc (.cells #[.string x.op, .string x.name, .int .i64 x.num, .slice A x.kids.length c] 25)) W) =>
    (show Calls Tryd.prog 23 #[.agg #[.string x.op, .string x.name, .int .i64 x.num, .slice A x.kids.length c]] W _ from all_calls x A c W ok ((h.bel hb0).bel hW) hz ((hT.below hb0).below hW)))
  clear h hb0 hz hT
  by_cases hd : 60 < deepF 1000 x
  · rw [if_pos hd]
    have hdb : decide ((60 : Int) < (deepF 1000 x : Nat)) = true := decide_eq_true (by omega)
    have hdc : decide (60 < deepF 1000 x) = true := decide_eq_true hd
    generalize deepF 1000 x = dd at *
    clear hd HK
    go_enter Tryd.func12, Tryd.ntmps12
    go_wp2_with fail
    refine HC.out.mono ?_
    rintro e w1 ⟨rfl, hb1⟩
    have HB1 := Lib.hid (below_step HB0.out hb1)
    clear hb1
    go_wp2_with fail
    go_ret
    exact ⟨rfl, HB1.out⟩
  · rw [if_neg hd]
    have hdb : decide ((60 : Int) < (deepF 1000 x : Nat)) = false := decide_eq_false (by omega)
    have hdc : decide (60 < deepF 1000 x) = false := decide_eq_false hd
    generalize deepF 1000 x = dd at *
    clear hd
    cases ha : allF x with
    | true =>
      rw [ha] at HK
      rw [if_pos rfl]
      clear ha
      go_enter Tryd.func12, Tryd.ntmps12
      go_wp2_with fail
      refine HC.out.mono ?_
      rintro e w1 ⟨rfl, hb1⟩
      have HB1 := Lib.hid (below_step HB0.out hb1)
      obtain ⟨q0, q1, q2, q3, q4, q5, q6, q7⟩ := (HX0.out.bel hb1).all
      have HK1 := Lib.hid (HK.out w1 hb1)
      clear hb1 HK
      go_wp2_with fail
      refine HK1.out.mono ?_
      rintro e w2 ⟨rfl, hb2⟩
      have HB2 := Lib.hid (below_step HB1.out hb2)
      clear hb2
      go_wp2_with fail
      go_ret
      exact ⟨rfl, HB2.out⟩
    | false =>
      rw [ha] at HK
      rw [if_neg (by decide)]
      clear ha
      go_enter Tryd.func12, Tryd.ntmps12
      go_wp2_with fail
      refine HC.out.mono ?_
      rintro e w1 ⟨rfl, hb1⟩
      have HB1 := Lib.hid (below_step HB0.out hb1)
      obtain ⟨q0, q1, q2, q3, q4, q5, q6, q7⟩ := (HX0.out.bel hb1).all
      have HK1 := Lib.hid (HK.out w1 hb1)
      clear hb1 HK
      go_wp2_with fail
      refine HK1.out.mono ?_
      rintro e w2 ⟨rfl, hb2⟩
      have HB2 := Lib.hid (below_step HB1.out hb2)
      clear hb2
      go_wp2_with fail
      go_ret
      exact ⟨rfl, HB2.out⟩
end Go.Proofs.YtlbgnpllbogkeaaDoor.Ext
end

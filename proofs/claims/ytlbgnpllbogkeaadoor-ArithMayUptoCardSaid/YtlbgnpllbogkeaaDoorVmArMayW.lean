/- Proved: arith.all's and Check's calls, Plain's, whatever expression. Conditions: its names have at most 10 to the 9 octets; the table of blanks holds what its initialiser lays. -/
import Derived.Test.YtlbgnpllbogkeaaDoorVmArMayP
import Derived.Test.YtlbgnpllbogkeaaDoorVmArAlive
set_option linter.unusedVariables false
set_option linter.unusedSimpArgs false
namespace Go.Proofs.YtlbgnpllbogkeaaDoor.Ext
open Go.RowKit Go.Proofs.YtlbgnpllbogkeaaDoorW.PrintWords
theorem set_singles : SetOf ⟨#[33, 32, 126, 32, 110, 101, 103]⟩ singlesL := ⟨by decide, by decide, by decide, by decide, by decide⟩
theorem set_steps : SetOf ⟨#[112, 114, 101, 43, 43, 32, 112, 114, 101, 45, 45, 32, 112, 111, 115, 116, 43, 43, 32, 112, 111, 115, 116, 45, 45]⟩ stepsL := ⟨by decide, by decide, by decide, by decide, by decide⟩
theorem set_doubles : SetOf ⟨#[42, 32, 47, 32, 37, 32, 43, 32, 45, 32, 60, 60, 32, 62, 62, 32, 60, 32, 60, 61, 32, 62, 32, 62, 61, 32, 61, 61, 32, 33, 61, 32, 38, 32, 94, 32, 124, 32, 38, 38, 32, 124, 124, 32, 44, 32, 42, 42]⟩ doublesL := ⟨by decide, by decide, by decide, by decide, by decide⟩
theorem count_cases (op : ByteArray) : (inL singlesL op = true ∧ countF op = (1, false)) ∨ (inL singlesL op = false ∧ inL stepsL op = true ∧ countF op = (1, true)) ∨ (inL singlesL op = false ∧ inL stepsL op = false ∧ inL assignsL op = true ∧ countF op = (2, true)) ∨
    (inL singlesL op = false ∧ inL stepsL op = false ∧ inL assignsL op = false ∧ inL doublesL op = true ∧ countF op = (2, false)) ∨ (inL singlesL op = false ∧ inL stepsL op = false ∧ inL assignsL op = false ∧ inL doublesL op = false ∧ op = sTern ∧ countF op = (3, false)) ∨
    (inL singlesL op = false ∧ inL stepsL op = false ∧ inL assignsL op = false ∧ inL doublesL op = false ∧ ¬ op = sTern ∧ countF op = (-1, false)) := by
  unfold countF
  cases h1 : inL singlesL op
  · cases h2 : inL stepsL op
    · cases h3 : inL assignsL op
      · cases h4 : inL doublesL op
        · by_cases h5 : op = sTern
          · rw [if_pos h5]; simp [h5]
          · rw [if_neg h5]; simp [h5]
        · simp
      · simp
    · simp
  · simp
theorem op_ne {op b : ByteArray} (h : ¬ op = b) : (op.toList == b.data.toList) = false := by
  rw [beq_eq_false_iff_ne, Lib.toList_data]
  exact fun e => h (ba_eq e)
set_option maxHeartbeats 4000000 in
theorem count_calls (op : ByteArray) (w : World) (hT : Tab w) :
    Calls Tryd.prog 58 #[.string op] w fun e w' => e = .returned (.tuple #[.int .i64 (countF op).1, .bool (countF op).2]) ∧ Below w.heap.size w w' := by
  have H1 := Lib.hid (fun W hT => in_calls _ _ op W set_singles hT)
  have H2 := Lib.hid (fun W hT => in_calls _ _ op W set_steps hT)
  have H3 := Lib.hid (fun W hT => in_calls _ _ op W set_assigns hT)
  have H4 := Lib.hid (fun W hT => in_calls _ _ op W set_doubles hT)
  have HT := Lib.hid hT
  clear hT
  rcases count_cases op with ⟨h1, hc⟩ | ⟨h1, h2, hc⟩ | ⟨h1, h2, h3, hc⟩ | ⟨h1, h2, h3, h4, hc⟩ | ⟨h1, h2, h3, h4, h5, hc⟩ | ⟨h1, h2, h3, h4, h5, hc⟩
  · rw [hc]
    rw [h1] at H1
    clear h1 hc
    go_enter Tryd.func58, Tryd.ntmps58
    go_wp2_with fail
    refine (H1.out w HT.out).mono ?_
    rintro e w1 ⟨rfl, hb1⟩
    have HB1 := Lib.hid (hb1)
    have HT1 := Lib.hid (HT.out.below hb1)
    clear hb1
    go_wp2_with fail
    go_ret2
    exact ⟨rfl, HB1.out⟩
  · rw [hc]
    rw [h1] at H1
    rw [h2] at H2
    clear h1 h2 hc
    go_enter Tryd.func58, Tryd.ntmps58
    go_wp2_with fail
    refine (H1.out w HT.out).mono ?_
    rintro e w1 ⟨rfl, hb1⟩
    have HB1 := Lib.hid (hb1)
    have HT1 := Lib.hid (HT.out.below hb1)
    clear hb1
    go_wp2_with fail
    refine (H2.out w1 HT1.out).mono ?_
    rintro e w2 ⟨rfl, hb2⟩
    have HB2 := Lib.hid (below_step HB1.out hb2)
    have HT2 := Lib.hid (HT1.out.below hb2)
    clear hb2
    go_wp2_with fail
    go_ret2
    exact ⟨rfl, HB2.out⟩
  · rw [hc]
    rw [h1] at H1
    rw [h2] at H2
    rw [h3] at H3
    clear h1 h2 h3 hc
    go_enter Tryd.func58, Tryd.ntmps58
    go_wp2_with fail
    refine (H1.out w HT.out).mono ?_
    rintro e w1 ⟨rfl, hb1⟩
    have HB1 := Lib.hid (hb1)
    have HT1 := Lib.hid (HT.out.below hb1)
    clear hb1
    go_wp2_with fail
    refine (H2.out w1 HT1.out).mono ?_
    rintro e w2 ⟨rfl, hb2⟩
    have HB2 := Lib.hid (below_step HB1.out hb2)
    have HT2 := Lib.hid (HT1.out.below hb2)
    clear hb2
    go_wp2_with fail
    refine (H3.out w2 HT2.out).mono ?_
    rintro e w3 ⟨rfl, hb3⟩
    have HB3 := Lib.hid (below_step HB2.out hb3)
    have HT3 := Lib.hid (HT2.out.below hb3)
    clear hb3
    go_wp2_with fail
    go_ret2
    exact ⟨rfl, HB3.out⟩
  · rw [hc]
    rw [h1] at H1
    rw [h2] at H2
    rw [h3] at H3
    rw [h4] at H4
    clear h1 h2 h3 h4 hc
    go_enter Tryd.func58, Tryd.ntmps58
    go_wp2_with fail
    refine (H1.out w HT.out).mono ?_
    rintro e w1 ⟨rfl, hb1⟩
    have HB1 := Lib.hid (hb1)
    have HT1 := Lib.hid (HT.out.below hb1)
    clear hb1
    go_wp2_with fail
    refine (H2.out w1 HT1.out).mono ?_
    rintro e w2 ⟨rfl, hb2⟩
    have HB2 := Lib.hid (below_step HB1.out hb2)
    have HT2 := Lib.hid (HT1.out.below hb2)
    clear hb2
    go_wp2_with fail
    refine (H3.out w2 HT2.out).mono ?_
    rintro e w3 ⟨rfl, hb3⟩
    have HB3 := Lib.hid (below_step HB2.out hb3)
    have HT3 := Lib.hid (HT2.out.below hb3)
    clear hb3
    go_wp2_with fail
    refine (H4.out w3 HT3.out).mono ?_
    rintro e w4 ⟨rfl, hb4⟩
    have HB4 := Lib.hid (below_step HB3.out hb4)
    have HT4 := Lib.hid (HT3.out.below hb4)
    clear hb4
    go_wp2_with fail
    go_ret2
    exact ⟨rfl, HB4.out⟩
  · rw [hc]
    rw [h1] at H1
    rw [h2] at H2
    rw [h3] at H3
    rw [h4] at H4
    subst h5
    clear h1 h2 h3 h4 hc
    go_enter Tryd.func58, Tryd.ntmps58
    go_wp2_with fail
    refine (H1.out w HT.out).mono ?_
    rintro e w1 ⟨rfl, hb1⟩
    have HB1 := Lib.hid (hb1)
    have HT1 := Lib.hid (HT.out.below hb1)
    clear hb1
    go_wp2_with fail
    refine (H2.out w1 HT1.out).mono ?_
    rintro e w2 ⟨rfl, hb2⟩
    have HB2 := Lib.hid (below_step HB1.out hb2)
    have HT2 := Lib.hid (HT1.out.below hb2)
    clear hb2
    go_wp2_with fail
    refine (H3.out w2 HT2.out).mono ?_
    rintro e w3 ⟨rfl, hb3⟩
    have HB3 := Lib.hid (below_step HB2.out hb3)
    have HT3 := Lib.hid (HT2.out.below hb3)
    clear hb3
    go_wp2_with fail
    refine (H4.out w3 HT3.out).mono ?_
    rintro e w4 ⟨rfl, hb4⟩
    have HB4 := Lib.hid (below_step HB3.out hb4)
    have HT4 := Lib.hid (HT3.out.below hb4)
    clear hb4
    go_wp2_with fail
    go_ret2
    exact ⟨rfl, HB4.out⟩
  · rw [hc]
    rw [h1] at H1
    rw [h2] at H2
    rw [h3] at H3
    rw [h4] at H4
    have h6 := op_ne h5
    clear h5
    clear h1 h2 h3 h4 hc
    go_enter Tryd.func58, Tryd.ntmps58
    go_wp2_with fail
    refine (H1.out w HT.out).mono ?_
    rintro e w1 ⟨rfl, hb1⟩
    have HB1 := Lib.hid (hb1)
    have HT1 := Lib.hid (HT.out.below hb1)
    clear hb1
    go_wp2_with fail
    refine (H2.out w1 HT1.out).mono ?_
    rintro e w2 ⟨rfl, hb2⟩
    have HB2 := Lib.hid (below_step HB1.out hb2)
    have HT2 := Lib.hid (HT1.out.below hb2)
    clear hb2
    go_wp2_with fail
    refine (H3.out w2 HT2.out).mono ?_
    rintro e w3 ⟨rfl, hb3⟩
    have HB3 := Lib.hid (below_step HB2.out hb3)
    have HT3 := Lib.hid (HT2.out.below hb3)
    clear hb3
    go_wp2_with fail
    refine (H4.out w3 HT3.out).mono ?_
    rintro e w4 ⟨rfl, hb4⟩
    have HB4 := Lib.hid (below_step HB3.out hb4)
    have HT4 := Lib.hid (HT3.out.below hb4)
    clear hb4
    go_wp2_with fail
    go_ret2
    exact ⟨rfl, HB4.out⟩
/-- The names of an expression are not long. -/
def SzE (x : E) : Prop := anyE (fun y => decide (1000000000 < y.name.size)) x = false
theorem SzE.here {x : E} (h : SzE x) : x.name.size ≤ 1000000000 := by
  unfold SzE at h
  rw [anyE_eq, Bool.or_eq_false_iff] at h
  have := of_decide_eq_false h.1
  omega
theorem SzE.kid {x k : E} (h : SzE x) (hk : k ∈ x.kids) : SzE k := by
  unfold SzE at h ⊢
  rw [anyE_eq, Bool.or_eq_false_iff, List.any_eq_false] at h
  have := h.2 k hk
  simpa using this
theorem allF_sz (x : E) : allF x = true → SzE x := by
  refine E.ind (P := fun x => allF x = true → SzE x) (fun op name n kids ih => ?_) x
  intro h
  obtain ⟨h1, h2⟩ := allF_inv h
  unfold SzE
  rw [anyE_eq, Bool.or_eq_false_iff, List.any_eq_false]
  refine ⟨decide_eq_false ?_, fun k hk => ?_⟩
  · show ¬ 1000000000 < name.size
    intro hl
    have hn : nameOf name = false := by
      unfold nameOf octets_Name.f
      rw [if_neg (by omega)]
      rfl
    unfold singleF at h1
    have e1 : (E.mk op name n kids).name = name := rfl
    rw [e1, hn, decide_eq_false (show ¬ name.size = 0 by omega)] at h1
    split at h1
    · simp at h1
    · simp at h1
  · have := ih k hk (h2 k hk)
    unfold SzE at this
    rw [this]
    decide
/-- What a function value answers of each kid. -/
def GivesS (fn : Nat) (lb : Array Value) (p : E → Bool) (ok : Nat → Prop) (w : World) (kids : List E) : Prop :=
  ∀ k ∈ kids, ∀ (A : Option Addr) (c : Nat) (W : World), Below w.heap.size w W → SumR W ok k [.string k.op, .string k.name, .int .i64 k.num, .slice A k.kids.length c] → Calls Tryd.prog fn (#[sumV k A c] ++ lb) W fun e W' => e = .returned (.bool (p k)) ∧ Below W.heap.size W W'
set_option maxHeartbeats 4000000 in
set_option maxRecDepth 100000 in
theorem indexS_calls (fn : Nat) (lb : Array Value) (eg : ∀ args w, (callFunc fn args).run Tryd.prog w = .ok (.enter fn args) w) (p : E → Bool) (x : E) (A : Option Addr) (c : Nat) (w : World) (ok : Nat → Prop)
    (h : SumR w ok x [.string x.op, .string x.name, .int .i64 x.num, .slice A x.kids.length c]) (hg : GivesS fn lb p ok w x.kids) :
    Calls Tryd.prog 59 #[.slice A x.kids.length c, .func (.func fn) #[] lb] w fun e w' => (∃ r : Int, e = .returned (.int .i64 r) ∧ decide (r ≥ 0) = x.kids.any p) ∧ Below w.heap.size w w' := by
  have hmx : x.kids.length ≤ 9223372036854775807 := by obtain ⟨_, _, _, _, hm⟩ := h.inv; exact hm
  have HS := Lib.hid h
  have HG := Lib.hid hg
  clear h hg
  go_enter Tryd.func59, Tryd.ntmps59
  go_wp2
  go_loopw [8] (fun v wr => ∃ (i : Nat), v = .int .i64 (i : Int) ∧ i ≤ x.kids.length ∧ (x.kids.take i).any p = false ∧ Below w.heap.size w wr) (fun v _ => x.kids.length - (intOf v).toNat)
  case atStart => exact ⟨0, rfl, Nat.zero_le _, rfl, Below.refl _ _⟩
  case round =>
    obtain ⟨i, rfl, hi, hno, hB⟩ := hrel
    have HB := Lib.hid hB
    clear hB
    by_cases hlt : i < x.kids.length
    · have hd : decide ((i : Int) < (x.kids.length : Int)) = true := decide_eq_true (by omega)
      have hg := List.getElem?_eq_getElem hlt
      obtain ⟨ad, A1, c1, hAe, hS1, x0, x1, x2, x3⟩ := (HS.out.bel HB.out).kid hg
      subst hAe
      have hmem := List.getElem_mem hlt
      have HC := Lib.hid (HG.out _ hmem A1 c1 wr HB.out hS1)
      have hstep : (x.kids.take (i + 1)).any p = p x.kids[i] := by
        rw [List.take_add_one, hg, List.any_append, hno]
        simp
      have HST := Lib.hid hstep
      have HNO := Lib.hid hno
      have HMEM := Lib.hid hmem
      generalize x.kids[i] = kj at *
      clear hno hstep hS1 hmem
      go_wp2_with fail
      refine HC.out.mono ?_
      rintro e w1 ⟨rfl, hb2⟩
      have HB2 := Lib.hid (below_step HB.out hb2)
      clear hb2
      cases hn : p kj
      · go_wp2_with fail
        go_roundw
        case rel => exact ⟨i + 1, by simp, by omega, by rw [HST.out, hn], HB2.out⟩
        case measure => simp [intOf]; omega
      · go_wp2_with fail
        go_ret
        refine ⟨⟨_, rfl, ?_⟩, HB2.out⟩
        rw [decide_eq_true (by omega)]
        symm
        rw [List.any_eq_true]
        exact ⟨_, HMEM.out, hn⟩
    · obtain rfl : i = x.kids.length := by omega
      have hd : decide ((x.kids.length : Int) < (x.kids.length : Int)) = false := decide_eq_false (by omega)
      rw [List.take_length] at hno
      have HNO := Lib.hid hno
      clear hno
      go_wp2_with fail
      go_ret
      refine ⟨⟨_, rfl, ?_⟩, HB.out⟩
      rw [HNO.out]
      rfl
set_option maxHeartbeats 2000000 in
theorem containsS_calls (fn : Nat) (lb : Array Value) (eg : ∀ args w, (callFunc fn args).run Tryd.prog w = .ok (.enter fn args) w) (p : E → Bool) (x : E) (A : Option Addr) (c : Nat) (w : World) (ok : Nat → Prop)
    (h : SumR w ok x [.string x.op, .string x.name, .int .i64 x.num, .slice A x.kids.length c]) (hg : GivesS fn lb p ok w x.kids) :
    Calls Tryd.prog 36 #[.slice A x.kids.length c, .func (.func fn) #[] lb] w fun e w' => e = .returned (.bool (x.kids.any p)) ∧ Below w.heap.size w w' := by
  have HI := Lib.hid (indexS_calls fn lb eg p x A c w ok h hg)
  clear h hg
  go_enter Tryd.func36, Tryd.ntmps36
  go_wp2_with fail
  refine HI.out.mono ?_
  rintro e w1 ⟨⟨r, rfl, hr⟩, hb2⟩
  have HB2 := Lib.hid hb2
  have HR := Lib.hid hr
  clear hb2 hr
  go_wp2_with fail
  go_ret
  exact ⟨by rw [← HR.out]; rfl, HB2.out⟩
end Go.Proofs.YtlbgnpllbogkeaaDoor.Ext

/- Proved: arith.anyOf's call, whatever function is handed in; Plain's. Condition: the table of blanks holds what its initialiser lays. -/
import Derived.Test.YtlbgnpllbogkeaaDoorVmArMayX
set_option linter.unusedVariables false
set_option linter.unusedSimpArgs false
namespace Go.Proofs.YtlbgnpllbogkeaaDoor.Ext
open Go.RowKit Go.Proofs.YtlbgnpllbogkeaaDoorW.PrintWords
/-- What a function value answers of any expression. -/
def GivesE (fn : Nat) (lb : Array Value) (p : E → Bool) (ok : Nat → Prop) (w : World) : Prop :=
  ∀ (y : E) (A : Option Addr) (c : Nat) (W : World), Below w.heap.size w W → SumR W ok y [.string y.op, .string y.name, .int .i64 y.num, .slice A y.kids.length c] → Calls Tryd.prog fn (#[sumV y A c] ++ lb) W fun e W' => e = .returned (.bool (p y)) ∧ Below W.heap.size W W'
theorem GivesE.bel {fn : Nat} {lb : Array Value} {p : E → Bool} {ok : Nat → Prop} {w w' : World} (h : GivesE fn lb p ok w) (hb : Below w.heap.size w w') : GivesE fn lb p ok w' := fun y A c W hW hS => h y A c W (below_step hb hW) hS
abbrev fnV (fn : Nat) (lb : Array Value) : Value := .func (.func fn) #[] lb
def AnyC (fn : Nat) (lb : Array Value) (p : E → Bool) (x : E) : Prop := ∀ (A : Option Addr) (c : Nat) (w : World) (ok : Nat → Prop), SumR w ok x [.string x.op, .string x.name, .int .i64 x.num, .slice A x.kids.length c] → GivesE fn lb p ok w →
    Calls Tryd.prog 24 #[sumV x A c, fnV fn lb] w fun e w' => e = .returned (.bool (anyE p x)) ∧ Below w.heap.size w w'
set_option maxHeartbeats 2000000 in
theorem any1_calls {fn : Nat} {lb : Array Value} {p : E → Bool} (x : E) (ih : AnyC fn lb p x) (A : Option Addr) (c B : Nat) (w : World) (ok : Nat → Prop) (h : SumR w ok x [.string x.op, .string x.name, .int .i64 x.num, .slice A x.kids.length c]) (hg : GivesE fn lb p ok w) (hB : Bk w B 35 #[fnV fn lb]) :
    Calls Tryd.prog 38 #[sumV x A c, .pointer (some ⟨B, 0, none⟩)] w fun e w' => e = .returned (.bool (anyE p x)) ∧ Below w.heap.size w w' := by
  have hb0 := (Below.refl _ w).alloc (Nat.le_refl _) (.cells #[.string x.op, .string x.name, .int .i64 x.num, .slice A x.kids.length c] 25)
  have HC := Lib.hid (show Calls Tryd.prog 24 #[.agg #[.string x.op, .string x.name, .int .i64 x.num, .slice A x.kids.length c], .func (.func fn) #[] lb] _ _ from ih A c _ ok (h.bel hb0) (hg.bel hb0))
  have HB0 := Lib.hid hb0
  have y0 := hB.c 0
  have y1 := hB.lt
  generalize anyE p x = b at *
  clear h hb0 ih hg hB
  go_enter Tryd.func38, Tryd.ntmps38
  go_wp2_with fail
  refine HC.out.mono ?_
  rintro e w1 ⟨rfl, hb1⟩
  have HB1 := Lib.hid (below_step HB0.out hb1)
  clear hb1
  go_wp2_with fail
  go_ret
  exact ⟨rfl, HB1.out⟩
set_option maxHeartbeats 4000000 in
theorem any_step {fn : Nat} {lb : Array Value} (eg : ∀ args w, (callFunc fn args).run Tryd.prog w = .ok (.enter fn args) w) {p : E → Bool} (x : E) (ih : ∀ k ∈ x.kids, AnyC fn lb p k) : AnyC fn lb p x := by
  intro A c w ok h hg
  rw [anyE_eq]
  have hb0 := (Below.refl _ w).alloc (Nat.le_refl _) (.cells #[.string x.op, .string x.name, .int .i64 x.num, .slice A x.kids.length c] 25)
  have b0 := Bx.new w #[.string x.op, .string x.name, .int .i64 x.num, .slice A x.kids.length c]
  have e1 : (w.alloc (oneO x A c)).heap.size = w.heap.size + 1 := by simp
  obtain ⟨w1, hw1⟩ : ∃ w1, w1 = w.alloc (oneO x A c) := ⟨_, rfl⟩
  rw [show w.alloc (.cells #[.string x.op, .string x.name, .int .i64 x.num, .slice A x.kids.length c] 25) = w1 from hw1.symm] at hb0 b0
  rw [← hw1] at e1
  have hb1 := (Below.refl _ w1).alloc (Nat.le_refl _) (.cells #[fnV fn lb] 35)
  have b1 := Bk.new w1 35 #[fnV fn lb]
  rw [e1] at b1
  have HBX := Lib.hid (b0.bel hb1)
  have HBF := Lib.hid b1
  have HB := Lib.hid (below_step hb0 hb1)
  have HS := Lib.hid ((h.bel hb0).bel hb1)
  have HG := Lib.hid ((hg.bel hb0).bel hb1)
  have HIH := Lib.hid ih
  obtain ⟨w2, hw2⟩ : ∃ w2, w2 = w1.alloc (.cells #[fnV fn lb] 35) := ⟨_, rfl⟩
  rw [← hw2] at HBX HBF HB HS HG
  have HW := Lib.hid (show w2 = (w.alloc (oneO x A c)).alloc (.cells #[fnV fn lb] 35) by rw [hw2, hw1])
  have HC := Lib.hid (show Calls Tryd.prog fn (#[.agg #[.string x.op, .string x.name, .int .i64 x.num, .slice A x.kids.length c]] ++ lb) w2 _ from HG.out x A c w2 (Below.refl _ _) HS.out)
  clear h hb0 ih hg b0 e1 hb1 b1 hw1 hw2
  obtain ⟨q0, q1, q2, q3, q4, q5, q6, q7⟩ := HBX.out.all
  have y0 := HBF.out.c 0
  have y1 := HBF.out.lt
  generalize hpx : p x = px at HC ⊢
  clear hpx
  cases px with
  | true =>
    go_enter Tryd.func24, Tryd.ntmps24
    go_wp2_with fail
    rw [← HW.out]
    go_wp2_with fail
    refine HC.out.mono ?_
    rintro e w3 ⟨rfl, hb3⟩
    have HB3 := Lib.hid (below_step HB.out hb3)
    clear hb3
    go_wp2_with fail
    go_ret
    exact ⟨rfl, HB3.out⟩
  | false =>
    go_enter Tryd.func24, Tryd.ntmps24
    go_wp2_with fail
    rw [← HW.out]
    go_wp2_with fail
    refine HC.out.mono ?_
    rintro e w3 ⟨rfl, hb3⟩
    have HB3 := Lib.hid (below_step HB.out hb3)
    obtain ⟨v0, v1, v2, v3, v4, v5, v6, v7⟩ := (HBX.out.bel hb3).all
    have HK := Lib.hid (show Calls Tryd.prog 36 #[.slice A x.kids.length c, .func (.func 38) #[] #[.pointer (some ⟨w.heap.size + 1, 0, none⟩)]] w3 _ from
      containsS_calls 38 #[.pointer (some ⟨w.heap.size + 1, 0, none⟩)] (enters_of Tryd.func38 (by kernel_rfl) rfl) (fun k => anyE p k) x A c w3 ok (HS.out.bel hb3)
      (fun k hk A1 c1 W1 hW1 hS1 => any1_calls k (HIH.out k hk) A1 c1 (w.heap.size + 1) W1 ok hS1 ((HG.out.bel hb3).bel hW1) ((HBF.out.bel hb3).bel hW1)))
    clear hb3 q0 q1 q2 q3 q4 q5 q6 q7
    go_wp2_with fail
    refine HK.out.mono ?_
    rintro e w4 ⟨rfl, hb4⟩
    have HB4 := Lib.hid (below_step HB3.out hb4)
    clear hb4
    go_wp2_with fail
    go_ret
    exact ⟨rfl, HB4.out⟩
theorem anyOf_calls {fn : Nat} {lb : Array Value} (eg : ∀ args w, (callFunc fn args).run Tryd.prog w = .ok (.enter fn args) w) {p : E → Bool} (x : E) : AnyC fn lb p x := by
  refine E.ind (P := AnyC fn lb p) (fun op name n kids ih => any_step eg _ ih) x
set_option maxHeartbeats 2000000 in
theorem plain1_calls (x : E) (A : Option Addr) (c : Nat) (w : World) (hT : Tab w) :
    Calls Tryd.prog 25 #[sumV x A c] w fun e w' => e = .returned (.bool (bashE x)) ∧ Below w.heap.size w w' := by
  unfold bashE
  have hb0 := (Below.refl _ w).alloc (Nat.le_refl _) (.cells #[.string x.op, .string x.name, .int .i64 x.num, .slice A x.kids.length c] 25)
  have HB0 := Lib.hid hb0
  have HI := Lib.hid (in_calls _ _ x.op _ set_steps (hT.below hb0))
  generalize inL stepsL x.op = b at *
  clear hb0 hT
  by_cases h : x.op = sPw
  · rw [decide_eq_true h]
    have h1 : (x.op.toList == [42, 42]) = true := by rw [h, Lib.toList_data]; rfl
    clear h
    go_enter Tryd.func25, Tryd.ntmps25
    go_wp2_with fail
    go_ret
    exact ⟨rfl, HB0.out⟩
  · rw [decide_eq_false h]
    have h1 : (x.op.toList == [42, 42]) = false := op_ne h
    clear h
    go_enter Tryd.func25, Tryd.ntmps25
    go_wp2_with fail
    refine HI.out.mono ?_
    rintro e w1 ⟨rfl, hb1⟩
    have HB1 := Lib.hid (below_step HB0.out hb1)
    clear hb1
    go_wp2_with fail
    go_ret
    exact ⟨rfl, HB1.out⟩
set_option maxHeartbeats 2000000 in
theorem Plain_calls (x : E) (A : Option Addr) (c : Nat) (w : World) (ok : Nat → Prop) (h : SumR w ok x [.string x.op, .string x.name, .int .i64 x.num, .slice A x.kids.length c]) (hT : Tab w) :
    Calls Tryd.prog 13 #[sumV x A c] w fun e w' => e = .returned (.bool (plainF x)) ∧ Below w.heap.size w w' := by
  unfold plainF
  have hb0 := (Below.refl _ w).alloc (Nat.le_refl _) (.cells #[.string x.op, .string x.name, .int .i64 x.num, .slice A x.kids.length c] 25)
  have HB0 := Lib.hid hb0
  have HC := Lib.hid (show Calls Tryd.prog 24 #[.agg #[.string x.op, .string x.name, .int .i64 x.num, .slice A x.kids.length c], .func (.func 25) #[] #[]] _ _ from
    anyOf_calls (fn := 25) (lb := #[]) (enters_of Tryd.func25 (by kernel_rfl) rfl) (p := bashE) x A c _ ok (h.bel hb0) (fun y A1 c1 W hW hS => plain1_calls y A1 c1 W ((hT.below hb0).below hW)))
  generalize anyE bashE x = b at *
  clear h hb0 hT
  go_enter Tryd.func13, Tryd.ntmps13
  go_wp2_with fail
  refine HC.out.mono ?_
  rintro e w1 ⟨rfl, hb1⟩
  have HB1 := Lib.hid (below_step HB0.out hb1)
  clear hb1
  go_wp2_with fail
  go_ret
  exact ⟨rfl, HB1.out⟩
end Go.Proofs.YtlbgnpllbogkeaaDoor.Ext

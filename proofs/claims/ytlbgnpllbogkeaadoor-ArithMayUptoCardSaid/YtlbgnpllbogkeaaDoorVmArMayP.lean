/- Proved: what arith's parser reads may be; what it reads without bash's signs is plain (in plain Lean). No program's step. -/
import Derived.Test.YtlbgnpllbogkeaaDoorVmArPlace
import Derived.Test.YtlbgnpllbogkeaaDoorVmArClTop
set_option linter.unusedVariables false
set_option linter.unusedSimpArgs false
namespace Go.Proofs.YtlbgnpllbogkeaaDoor.Ext
open Go.RowKit Go.Proofs.YtlbgnpllbogkeaaDoorW.PrintWords
mutual
def anyE (p : E → Bool) : E → Bool
  | .mk o m n ks => p (.mk o m n ks) || anysE p ks
def anysE (p : E → Bool) : List E → Bool
  | [] => false
  | k :: ks => anyE p k || anysE p ks
end
theorem anysE_eq (p : E → Bool) : ∀ ks, anysE p ks = ks.any (anyE p)
  | [] => by rw [anysE]; rfl
  | k :: ks => by rw [anysE, anysE_eq p ks]; rfl
theorem anyE_eq (p : E → Bool) (x : E) : anyE p x = (p x || x.kids.any (anyE p)) := by
  cases x with
  | mk o m n ks => rw [anyE, anysE_eq]; rfl
def singlesL : List ByteArray := [⟨#[33]⟩, ⟨#[126]⟩, sNeg]
def stepsL : List ByteArray := [⟨#[112, 114, 101, 43, 43]⟩, ⟨#[112, 114, 101, 45, 45]⟩, ⟨#[112, 111, 115, 116, 43, 43]⟩, ⟨#[112, 111, 115, 116, 45, 45]⟩]
def doublesL : List ByteArray := [⟨#[42]⟩, ⟨#[47]⟩, ⟨#[37]⟩, ⟨#[43]⟩, ⟨#[45]⟩, ⟨#[60, 60]⟩, ⟨#[62, 62]⟩, ⟨#[60]⟩, ⟨#[60, 61]⟩, ⟨#[62]⟩, ⟨#[62, 61]⟩, ⟨#[61, 61]⟩, ⟨#[33, 61]⟩, ⟨#[38]⟩, ⟨#[94]⟩, ⟨#[124]⟩, ⟨#[38, 38]⟩, ⟨#[124, 124]⟩, ⟨#[44]⟩, ⟨#[42, 42]⟩]
def countF (op : ByteArray) : Int × Bool := if inL singlesL op = true then (1, false) else if inL stepsL op = true then (1, true) else if inL assignsL op = true then (2, true) else if inL doublesL op = true then (2, false) else if op = sTern then (3, false) else (-1, false)
def headVar : List E → Bool
  | [] => false
  | k :: _ => isVar k
def singleF (x : E) : Bool := if x.op.size = 0 then decide (x.kids.length = 0) && (decide (0 ≤ x.num) && (decide (x.name.size = 0) || (decide (x.num = 0) && nameOf x.name)))
  else decide (x.name.size = 0) && (decide (x.num = 0) && (decide ((x.kids.length : Int) = (countF x.op).1) && (!(countF x.op).2 || headVar x.kids)))
def allF (x : E) : Bool := !anyE (fun y => !singleF y) x
theorem allF_eq (x : E) : allF x = (singleF x && !x.kids.any (fun k => !allF k)) := by
  have h : (fun k => !allF k) = anyE (fun y => !singleF y) := by
    funext k
    unfold allF
    rw [Bool.not_not]
  rw [h]
  unfold allF
  rw [anyE_eq, Bool.not_or, Bool.not_not]
theorem allF_mk {o m : ByteArray} {n : Int} {ks : List E} (h : singleF (.mk o m n ks) = true) (hk : ∀ k ∈ ks, allF k = true) : allF (.mk o m n ks) = true := by
  rw [allF_eq, h, Bool.true_and, Bool.not_eq_true', List.any_eq_false]
  intro k hm
  rw [hk k hm]
  decide
theorem allF_inv {x : E} (h : allF x = true) : singleF x = true ∧ ∀ k ∈ x.kids, allF k = true := by
  rw [allF_eq, Bool.and_eq_true, Bool.not_eq_true', List.any_eq_false] at h
  exact ⟨h.1, fun k hk => by have := h.2 k hk; simpa using this⟩
def bashE (x : E) : Bool := decide (x.op = sPw) || inL stepsL x.op
def plainF (x : E) : Bool := !anyE bashE x
theorem plainF_mk {o m : ByteArray} {n : Int} {ks : List E} (h : bashE (.mk o m n ks) = false) (hk : ∀ k ∈ ks, plainF k = true) : plainF (.mk o m n ks) = true := by
  unfold plainF at *
  rw [anyE_eq, h, Bool.false_or, Bool.not_eq_true', List.any_eq_false]
  intro k hm
  have := hk k hm
  simpa using this
/-- What is asked of a token. -/
structure TokOk (bash : Bool) (t : Tok) : Prop where
  name : t.kind = 2 → nameOf t.text = true
  sign : t.kind = 3 → bash = true ∨ inL bashesL t.text = false
/-- May an expression be, and is it plain? -/
def MayE (bash : Bool) (x : E) : Prop := allF x = true ∧ (bash = true ∨ plainF x = true)
def MayR (bash : Bool) : Rs → Prop
  | .out => True
  | .fault _ _ => True
  | .ok x t => MayE bash x ∧ TokOk bash t
section
variable {nx : Nat → Tok} {bash : Bool}
theorem MayR.bind {r : Rs} {f : E → Tok → Rs} (h : MayR bash r) (hf : ∀ x t, MayE bash x → TokOk bash t → MayR bash (f x t)) : MayR bash (r.bind f) := by
  cases r with
  | out => exact trivial
  | fault a e => exact trivial
  | ok x t => exact hf x t h.1 h.2
theorem took_of (hn : ∀ i, TokOk bash (nx i)) {l : List ByteArray} {t t1 : Tok} {o : ByteArray} (ht : TokOk bash t) (h : tookF nx l t = some (o, t1)) : TokOk bash t1 ∧ o ∈ l ∧ (bash = true ∨ inL bashesL o = false) := by
  unfold tookF at h
  split at h
  · rename_i hc
    injection h with h
    injection h with h0 h
    rw [← h, ← h0]
    exact ⟨hn _, inL_iff.1 hc.2, ht.sign hc.1⟩
  · cases h
theorem MayR.took (hn : ∀ i, TokOk bash (nx i)) {l : List ByteArray} {t : Tok} {a : Rs} {f : ByteArray → Tok → Rs} (ht : TokOk bash t) (ha : MayR bash a) (hf : ∀ o t1, TokOk bash t1 → o ∈ l → (bash = true ∨ inL bashesL o = false) → MayR bash (f o t1)) : MayR bash (tookD nx l t a f) := by
  unfold tookD
  cases h : tookF nx l t with
  | none => exact ha
  | some p => exact hf p.1 p.2 (took_of hn ht h).1 (took_of hn ht h).2.1 (took_of hn ht h).2.2
theorem MayR.want (hn : ∀ i, TokOk bash (nx i)) {b : ByteArray} {t : Tok} {f : Tok → Rs} (ht : TokOk bash t) (hf : ∀ t1, TokOk bash t1 → MayR bash (f t1)) : MayR bash (wantF nx b t f) := by
  unfold wantF
  cases h : tookF nx [b] t with
  | none => exact trivial
  | some p => exact hf p.2 (took_of hn ht h).1
theorem MayR.deeper {d : Nat} {t : Tok} {f : Nat → Rs} (hf : ∀ d, MayR bash (f d)) : MayR bash (deeperF d t f) := by
  unfold deeperF
  split
  · exact trivial
  · exact hf _
def BiOk (o : ByteArray) : Prop := ¬ o.size = 0 ∧ countF o = (2, false) ∧ inL stepsL o = false
theorem may_bi {o : ByteArray} {x y : E} (ho : BiOk o) (hb : bash = true ∨ ¬ o = sPw) (hx : MayE bash x) (hy : MayE bash y) : MayE bash (bi o x y) := by
  refine ⟨allF_mk ?_ ?_, ?_⟩
  · unfold singleF
    rw [if_neg (show ¬ (E.mk o em 0 [x, y]).op.size = 0 from ho.1)]
    show (decide (em.size = 0) && (decide ((0 : Int) = 0) && (decide (((2 : Nat) : Int) = (countF o).1) && (!(countF o).2 || headVar [x, y])))) = true
    rw [ho.2.1]
    rfl
  · intro k hk
    rcases List.mem_cons.1 hk with rfl | hk
    · exact hx.1
    · rw [List.mem_singleton.1 hk]; exact hy.1
  · rcases hb with hb | hb
    · exact .inl hb
    · rcases hx.2 with h | h
      · exact .inl h
      · rcases hy.2 with h' | h'
        · exact .inl h'
        · refine .inr (plainF_mk ?_ ?_)
          · unfold bashE
            show (decide (o = sPw) || inL stepsL o) = false
            rw [decide_eq_false hb, ho.2.2]
            rfl
          · intro k hk
            rcases List.mem_cons.1 hk with rfl | hk
            · exact h
            · rw [List.mem_singleton.1 hk]; exact h'
theorem may_leaf {m : ByteArray} {n : Int} (h : singleF (.mk em m n []) = true) : MayE bash (.mk em m n []) :=
  ⟨allF_mk h (fun k hk => by cases hk), .inr (plainF_mk (show (decide (em = sPw) || inL stepsL em) = false by decide) (fun k hk => by cases hk))⟩
theorem may_un {o : ByteArray} {x : E} (h0 : ¬ o.size = 0) (hc : countF o = (1, false)) (hs : bash = true ∨ bashE (un o x) = false) (hx : MayE bash x) : MayE bash (un o x) := by
  refine ⟨allF_mk ?_ ?_, ?_⟩
  · unfold singleF
    rw [if_neg (show ¬ (E.mk o em 0 [x]).op.size = 0 from h0)]
    show (decide (em.size = 0) && (decide ((0 : Int) = 0) && (decide (((1 : Nat) : Int) = (countF o).1) && (!(countF o).2 || headVar [x])))) = true
    rw [hc]
    rfl
  · intro k hk
    rw [List.mem_singleton.1 hk]; exact hx.1
  · rcases hs with hb | hb
    · exact .inl hb
    · rcases hx.2 with h | h
      · exact .inl h
      · exact .inr (plainF_mk hb (fun k hk => by rw [List.mem_singleton.1 hk]; exact h))
theorem may_step {o : ByteArray} {m : ByteArray} (h0 : ¬ o.size = 0) (hc : countF o = (1, true)) (hb : bash = true) (hm : nameOf m = true) : MayE bash (un o (varE m)) := by
  have hp := name_pos hm
  refine ⟨allF_mk ?_ ?_, .inl hb⟩
  · unfold singleF
    rw [if_neg (show ¬ (E.mk o em 0 [varE m]).op.size = 0 from h0)]
    show (decide (em.size = 0) && (decide ((0 : Int) = 0) && (decide (((1 : Nat) : Int) = (countF o).1) && (!(countF o).2 || isVar (varE m))))) = true
    rw [hc]
    show (!true || isVar (varE m)) = true
    show (em.size == 0 && !(m.size == 0)) = true
    rw [beq_eq_false_iff_ne.2 (by omega : m.size ≠ 0)]
    rfl
  · intro k hk
    rw [List.mem_singleton.1 hk]
    exact (may_leaf (bash := bash) (show singleF (.mk em m 0 []) = true by
      unfold singleF
      rw [if_pos (show (E.mk em m 0 []).op.size = 0 from rfl)]
      show (decide (0 = 0) && (decide ((0 : Int) ≤ 0) && (decide (m.size = 0) || (decide ((0 : Int) = 0) && nameOf m)))) = true
      rw [hm]
      simp)).1
theorem may_var {m : ByteArray} (hm : nameOf m = true) : MayE bash (varE m) := may_leaf (by
  unfold singleF
  rw [if_pos (show (E.mk em m 0 []).op.size = 0 from rfl)]
  show (decide (0 = 0) && (decide ((0 : Int) ≤ 0) && (decide (m.size = 0) || (decide ((0 : Int) = 0) && nameOf m)))) = true
  rw [hm]
  simp)
theorem may_num {n : Int} (h : 0 ≤ n) : MayE bash (numE n) := may_leaf (by
  unfold singleF
  rw [if_pos (show (E.mk em em n []).op.size = 0 from rfl)]
  show (decide (0 = 0) && (decide (0 ≤ n) && (decide (em.size = 0) || (decide (n = 0) && nameOf em)))) = true
  rw [decide_eq_true h]
  rfl)
theorem may_lit (n : Int) : MayE bash (litE n) := by
  unfold litE
  split
  · rename_i h; exact may_num h
  · rename_i h
    refine may_un (by decide) (by decide) (.inr (show (decide (sNeg = sPw) || inL stepsL sNeg) = false by decide)) (may_bi ⟨by decide, by decide, by decide⟩ (.inr (by decide)) (may_num (by omega)) (may_num (by decide)))
theorem may_assign {o : ByteArray} {x y : E} (ho : o ∈ assignsL) (hv : isVar x = true) (hx : MayE bash x) (hy : MayE bash y) : MayE bash (bi o x y) := by
  have key : ∀ o ∈ assignsL, ¬ o.size = 0 ∧ countF o = (2, true) ∧ inL stepsL o = false ∧ ¬ o = sPw := by decide
  obtain ⟨h0, h1, h2, h3⟩ := key o ho
  refine ⟨allF_mk ?_ ?_, ?_⟩
  · unfold singleF
    rw [if_neg (show ¬ (E.mk o em 0 [x, y]).op.size = 0 from h0)]
    show (decide (em.size = 0) && (decide ((0 : Int) = 0) && (decide (((2 : Nat) : Int) = (countF o).1) && (!(countF o).2 || isVar x)))) = true
    rw [h1, hv]
    rfl
  · intro k hk
    rcases List.mem_cons.1 hk with rfl | hk
    · exact hx.1
    · rw [List.mem_singleton.1 hk]; exact hy.1
  · rcases hx.2 with h | h
    · exact .inl h
    · rcases hy.2 with h' | h'
      · exact .inl h'
      · refine .inr (plainF_mk ?_ ?_)
        · unfold bashE
          show (decide (o = sPw) || inL stepsL o) = false
          rw [decide_eq_false h3, h2]
          rfl
        · intro k hk
          rcases List.mem_cons.1 hk with rfl | hk
          · exact h
          · rw [List.mem_singleton.1 hk]; exact h'
theorem may_tern {x y z : E} (hx : MayE bash x) (hy : MayE bash y) (hz : MayE bash z) : MayE bash (.mk sTern em 0 [x, y, z]) := by
  have hm : ∀ {P : E → Prop}, P x → P y → P z → ∀ k ∈ [x, y, z], P k := by
    intro P a b c k hk
    rcases List.mem_cons.1 hk with rfl | hk
    · exact a
    · rcases List.mem_cons.1 hk with rfl | hk
      · exact b
      · rw [List.mem_singleton.1 hk]; exact c
  refine ⟨allF_mk ?_ (hm hx.1 hy.1 hz.1), ?_⟩
  · unfold singleF
    rw [if_neg (show ¬ (E.mk sTern em 0 [x, y, z]).op.size = 0 from (by decide : ¬ sTern.size = 0))]
    show (decide (em.size = 0) && (decide ((0 : Int) = 0) && (decide (((3 : Nat) : Int) = (countF sTern).1) && (!(countF sTern).2 || headVar [x, y, z])))) = true
    rw [show countF sTern = (3, false) by decide]
    rfl
  · rcases hx.2 with h | h
    · exact .inl h
    · rcases hy.2 with h1 | h1
      · exact .inl h1
      · rcases hz.2 with h2 | h2
        · exact .inl h2
        · exact .inr (plainF_mk (show bashE (.mk sTern em 0 [x, y, z]) = false from (by decide : (decide (sTern = sPw) || inL stepsL sTern) = false)) (hm h h1 h2))
theorem may_left (hn : ∀ i, TokOk bash (nx i)) (l : List ByteArray) (hl : ∀ o ∈ l, BiOk o ∧ ¬ o = sPw) (one : Tok → Rs) (ho : ∀ t, TokOk bash t → MayR bash (one t)) : ∀ (k : Nat) (x : E) (t : Tok), MayE bash x → TokOk bash t → MayR bash (leftGo nx l one k x t)
  | 0, _, _, _, _ => trivial
  | k + 1, x, t, hx, ht => by
    rw [leftGo]
    cases h : tookF nx l t with
    | none => exact ⟨hx, ht⟩
    | some p =>
      obtain ⟨h1, h2, _⟩ := took_of hn ht h
      exact (ho p.2 h1).bind (fun y t2 hy ht2 => may_left hn l hl one ho k _ t2 (may_bi (hl _ h2).1 (.inr (hl _ h2).2) hx hy) ht2)
theorem levels_ok : ∀ n, ∀ o ∈ levelsL n, BiOk o ∧ ¬ o = sPw
  | 0 => by unfold BiOk; decide
  | 1 => by unfold BiOk; decide
  | 2 => by unfold BiOk; decide
  | 3 => by unfold BiOk; decide
  | 4 => by unfold BiOk; decide
  | 5 => by unfold BiOk; decide
  | 6 => by unfold BiOk; decide
  | 7 => by unfold BiOk; decide
  | 8 => by unfold BiOk; decide
  | 9 => by unfold BiOk; decide
  | n + 10 => by intro o ho; cases ho
theorem may_parse {lit : ByteArray → Int} (hn : ∀ i, TokOk bash (nx i)) : ∀ (k : Nat) (nt : NT) (d : Nat) (t : Tok), TokOk bash t → MayR bash (parse nx lit k nt d t)
  | 0, _, _, _, _ => by rw [parse]; exact trivial
  | k + 1, nt, d, t, ht => by
    have ih := may_parse (lit := lit) hn k
    cases nt with
    | comma =>
      rw [parse]
      exact (ih _ _ _ ht).bind (fun x t hx h => may_left hn _ (by unfold BiOk; decide) _ (fun t h => ih _ _ _ h) k x t hx h)
    | assign =>
      rw [parse]
      refine (ih _ _ _ ht).bind (fun x t hx h => ?_)
      split
      · rename_i hv
        exact MayR.took hn h ⟨hx, h⟩ (fun o t1 h1 ho _ => MayR.deeper (fun d => (ih _ _ _ h1).bind (fun y t2 hy h2 => ⟨may_assign ho hv hx hy, h2⟩)))
      · exact ⟨hx, h⟩
    | choice =>
      rw [parse]
      exact (ih _ _ _ ht).bind (fun x t hx h => MayR.took hn h ⟨hx, h⟩ (fun o t1 h1 _ _ => MayR.deeper (fun d => (ih _ _ _ h1).bind (fun y t2 hy h2 => MayR.want hn h2 (fun t3 h3 => (ih _ _ _ h3).bind (fun z t4 hz h4 => ⟨may_tern hx hy hz, h4⟩))))))
    | level n =>
      rw [parse]
      split
      · exact ih _ _ _ ht
      · exact (ih _ _ _ ht).bind (fun x t hx h => may_left hn _ (levels_ok n) _ (fun t h => ih _ _ _ h) k x t hx h)
    | power =>
      rw [parse]
      exact (ih _ _ _ ht).bind (fun x t hx h => MayR.took hn h ⟨hx, h⟩ (fun o t1 h1 ho hb => MayR.deeper (fun d => (ih _ _ _ h1).bind (fun y t2 hy h2 => ⟨may_bi (o := sPw) ⟨by decide, by decide, by decide⟩ (.inl (by
        rcases hb with hb | hb
        · exact hb
        · rw [List.mem_singleton.1 ho] at hb; exact absurd hb (by decide))) hx hy, h2⟩))))
    | unary =>
      rw [parse]
      refine MayR.deeper (fun d => MayR.took hn ht (ih _ _ _ ht) (fun o t1 h1 ho hb => ?_))
      split
      · exact ih _ _ _ h1
      · rename_i n1
        split
        · exact (ih _ _ _ h1).bind (fun y t2 hy h2 => ⟨may_un (by decide) (by decide) (.inr (by show (decide (sNeg = sPw) || inL stepsL sNeg) = false; decide)) hy, h2⟩)
        · rename_i n2
          split
          · rename_i hs
            have hbt : bash = true := by
              rcases hb with hb | hb
              · exact hb
              · rcases hs with rfl | rfl
                · exact absurd hb (by decide)
                · exact absurd hb (by decide)
            split
            · rename_i hk
              refine ⟨?_, hn _⟩
              rcases hs with rfl | rfl
              · exact may_step (by decide) (by decide) hbt (h1.name hk)
              · exact may_step (by decide) (by decide) hbt (h1.name hk)
            · exact trivial
          · rename_i n3
            have key : ∀ o ∈ unaryL, o = sPlus ∨ o = sMinus ∨ (o = sInc ∨ o = sDec) ∨ (¬ o.size = 0 ∧ countF o = (1, false) ∧ (decide (o = sPw) || inL stepsL o) = false) := by decide
            rcases key o ho with h | h | h | ⟨q0, q1, q2⟩
            · exact absurd h n1
            · exact absurd h n2
            · exact absurd h n3
            · exact (ih _ _ _ h1).bind (fun y t2 hy h2 => ⟨may_un q0 q1 (.inr q2) hy, h2⟩)
    | post =>
      rw [parse]
      split
      · exact ⟨may_lit _, hn _⟩
      · split
        · rename_i hk
          refine MayR.took hn (hn _) ⟨may_var (ht.name hk), hn _⟩ (fun o t1 h1 ho hb => ⟨?_, h1⟩)
          have hbt : bash = true := by
            rcases hb with hb | hb
            · exact hb
            · have key : ∀ o ∈ stepL, inL bashesL o = true := by decide
              rw [key o ho] at hb; cases hb
          have key : ∀ o ∈ stepL, ¬ (sPost ++ o).size = 0 ∧ countF (sPost ++ o) = (1, true) := by decide
          exact may_step (key o ho).1 (key o ho).2 hbt (ht.name hk)
        · exact MayR.want hn ht (fun t1 h1 => (ih _ _ _ h1).bind (fun x t2 hx h2 => MayR.want hn h2 (fun t3 h3 => ⟨hx, h3⟩)))
end
theorem sign_tok (s : ByteArray) (bash : Bool) (a : Nat) : ∀ l, TokOk bash (signGo s bash a l)
  | [] => ⟨(fun h => by cases h), (fun h => by cases h)⟩
  | g :: l => by
    rw [signGo]
    split
    · rename_i hs
      refine ⟨(fun h => by cases h), fun _ => ?_⟩
      unfold signOk at hs
      rw [Bool.and_eq_true, Bool.or_eq_true, Bool.not_eq_true'] at hs
      exact hs.2
    · exact sign_tok s bash a l
theorem next_tok (s : ByteArray) (bash : Bool) (i : Nat) : TokOk bash (nextF s bash i) := by
  unfold nextF
  split
  · exact ⟨(fun h => by cases h), (fun h => by cases h)⟩
  · split
    · rename_i h
      exact ⟨(fun _ => h), (fun h => by cases h)⟩
    · split
      · exact ⟨(fun h => by cases h), (fun h => by cases h)⟩
      · split
        · exact ⟨(fun h => by cases h), (fun h => by cases h)⟩
        · exact sign_tok _ _ _ _
/-- What is read may be. -/
theorem parse_may (s : ByteArray) (bash : Bool) : ((parseS s bash).2.2 = 0 → (parseS s bash).2.1 = s.size ∧ deepF 1000 (parseS s bash).1 ≤ 60 ∧ allF (parseS s bash).1 = true ∧ (bash = true ∨ plainF (parseS s bash).1 = true)) ∧ ((parseS s bash).2.2 ≠ 0 → (parseS s bash).1 = zeroE) := by
  have hz : MayE bash zeroE := may_num (n := 0) (by decide)
  unfold parseS
  split
  · exact ⟨(fun h => by cases h), (fun _ => rfl)⟩
  · rename_i h
    have hp := may_parse (bash := bash) (lit := litV) (next_tok s bash) (20 * s.size + 100) .comma 0 (nextF s bash 0) (next_tok s bash 0)
    have hps := parse_some (lit := litV) (next_nx s bash (by omega))
    unfold parseTop
    split
    · exact ⟨fun _ => ⟨rfl, (by decide : deepF 1000 zeroE ≤ 60), hz.1, hz.2⟩, fun _ => rfl⟩
    · cases hq : parse (nextF s bash) litV (20 * s.size + 100) .comma 0 (nextF s bash 0) with
      | out => exact absurd hq hps
      | fault a e =>
        have he := parse_er (nx := nextF s bash) (lit := litV) (20 * s.size + 100) .comma 0 (nextF s bash 0)
        rw [hq] at he
        exact ⟨fun h => absurd h he, fun _ => rfl⟩
      | ok x t =>
        rw [hq] at hp
        dsimp only
        split
        · exact ⟨(fun h => by cases h), (fun _ => rfl)⟩
        · split
          · exact ⟨(fun h => by cases h), (fun _ => rfl)⟩
          · rename_i hd
            exact ⟨fun _ => ⟨rfl, by dsimp only; omega, hp.1.1, hp.1.2⟩, fun h => absurd rfl h⟩
end Go.Proofs.YtlbgnpllbogkeaaDoor.Ext

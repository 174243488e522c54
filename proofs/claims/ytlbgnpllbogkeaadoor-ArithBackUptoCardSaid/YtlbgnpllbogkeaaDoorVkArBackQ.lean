/- Proved: an expression that may be, of at most 25 within each other, is read as it from its text (plain Lean). No program's step. Proved: an expression that may be, of at most 25 within each other, is read as it from its text, by arith.Parse in plain Lean. No program's step. -/
import Derived.Test.YtlbgnpllbogkeaaDoorVkArRd
import Derived.Test.YtlbgnpllbogkeaaDoorVkArTxt
import Derived.Test.YtlbgnpllbogkeaaDoorVkArMayX
section
set_option linter.unusedVariables false
set_option linter.unusedSimpArgs false
namespace Go.Proofs.YtlbgnpllbogkeaaDoor.Ext
open Go.RowKit Go.Proofs.YtlbgnpllbogkeaaDoorW.PrintWords
/-- At most so many within each other. -/
def Dp : Nat → E → Prop
  | 0, x => x.kids = []
  | m + 1, x => ∀ k ∈ x.kids, Dp m k
theorem foldD_ge (l : Nat) : ∀ (kids : List E) (n : Nat), n ≤ foldD l kids n
  | [], n => Nat.le_refl _
  | k :: ks, n => Nat.le_trans (Nat.le_max_left _ _) (foldD_ge l ks _)
theorem foldD_mem (l : Nat) : ∀ (kids : List E) (n : Nat) (k : E), k ∈ kids → 1 + deepF l k ≤ foldD l kids n
  | [], n, k, h => by cases h
  | a :: ks, n, k, h => by
    rcases List.mem_cons.1 h with rfl | h
    · exact Nat.le_trans (Nat.le_max_right _ _) (foldD_ge l ks _)
    · exact foldD_mem l ks _ k h
theorem dp_of : ∀ (m l : Nat) (x : E), m < l → deepF l x ≤ m → Dp m x
  | m, 0, x, hl, _ => absurd hl (Nat.not_lt_zero _)
  | 0, l + 1, x, hl, h => by
    rw [deepF_succ] at h
    show x.kids = []
    cases hk : x.kids with
    | nil => rfl
    | cons a b =>
      have := foldD_mem l x.kids 0 a (by rw [hk]; exact List.mem_cons_self)
      omega
  | m + 1, l + 1, x, hl, h => by
    rw [deepF_succ] at h
    intro k hk
    have := foldD_mem l x.kids 0 k hk
    exact dp_of m l k (by omega) (by omega)
/-- The numbers of an expression are an int's. -/
def NumE (x : E) : Prop := anyE (fun y => decide (9223372036854775807 < y.num)) x = false
theorem NumE.here {x : E} (h : NumE x) : x.num ≤ 9223372036854775807 := by
  unfold NumE at h
  rw [anyE_eq, Bool.or_eq_false_iff] at h
  have := of_decide_eq_false h.1
  omega
theorem NumE.kid {x k : E} (h : NumE x) (hk : k ∈ x.kids) : NumE k := by
  unfold NumE at h ⊢
  rw [anyE_eq, Bool.or_eq_false_iff, List.any_eq_false] at h
  have := h.2 k hk
  simpa using this
theorem plainF_inv {x : E} (h : plainF x = true) : bashE x = false ∧ ∀ k ∈ x.kids, plainF k = true := by
  unfold plainF at h
  rw [anyE_eq, Bool.not_eq_true', Bool.or_eq_false_iff, List.any_eq_false] at h
  refine ⟨h.1, fun k hk => ?_⟩
  have := h.2 k hk
  unfold plainF
  simpa using this
/-- What stands behind a whole expression: nothing, or a parenthesis. -/
def Bd (r : List UInt8) : Prop := r = [] ∨ ∃ r', r = 41 :: r'
theorem Bd.noPart {r : List UInt8} (h : Bd r) : NoPart r := by
  intro c l e
  rcases h with h | ⟨r', h⟩
  · rw [h] at e; cases e
  · rw [h] at e; cases e; decide
theorem noPart_32 (r : List UInt8) : NoPart (32 :: r) := by
  intro c l e
  cases e
  decide
section
variable {s : ByteArray} {bash : Bool} {p d : Nat}
theorem fin_quiet {r : List UInt8} (hb : Bd r) (h : Sf s p r) (l : List ByteArray) (hl : inL l sR = false) : Quiet (nextF s bash) l (nextF s bash p) := by
  rcases hb with hb | ⟨r', hb⟩
  · rw [hb] at h
    have := tok_end h bash
    exact quiet_kind (by omega)
  · rw [hb] at h
    rw [tok_close h bash]
    refine quiet_out (fun hm => ?_)
    rw [inL_iff.2 hm] at hl
    cases hl
theorem op_quiet {g : ByteArray} {q e : Nat} {l : List ByteArray} (h : inL l g = false) : Quiet (nextF s bash) l ⟨3, g, q, e⟩ := by
  refine quiet_out (fun hm => ?_)
  rw [inL_iff.2 hm] at h
  cases h
abbrev RdS (s : ByteArray) (bash : Bool) := Rd (nextF s bash) litV
theorem up_level {t t1 : Tok} {x : E} (h : RdS s bash .unary d t x t1) (m : Nat) (hm : m ≤ 10) (h1 : Quiet (nextF s bash) [sPw] t1) (h2 : ∀ n, m ≤ n → n < 10 → Quiet (nextF s bash) (levelsL n) t1) : RdS s bash (.level m) d t x t1 := (h.power h1).climbed m hm h2
theorem levels_r : ∀ n, inL (levelsL n) sR = false := levels_paren
theorem fin_level {t : Tok} {x : E} {r : List UInt8} (hb : Bd r) (hs : Sf s p r) (h : RdS s bash .unary d t x (nextF s bash p)) (m : Nat) (hm : m ≤ 10) : RdS s bash (.level m) d t x (nextF s bash p) :=
  up_level h m hm (fin_quiet hb hs _ (by decide)) (fun n _ _ => fin_quiet hb hs _ (levels_r n))
theorem fin_choice {t : Tok} {x : E} {r : List UInt8} (hb : Bd r) (hs : Sf s p r) (h : RdS s bash .unary d t x (nextF s bash p)) : RdS s bash .choice d t x (nextF s bash p) :=
  (fin_level hb hs h 0 (Nat.zero_le _)).choice (fin_quiet hb hs _ (by decide))
theorem fin_assign {t : Tok} {x : E} {r : List UInt8} (hb : Bd r) (hs : Sf s p r) (h : RdS s bash .unary d t x (nextF s bash p)) : RdS s bash .assign d t x (nextF s bash p) :=
  (fin_choice hb hs h).assign (fun _ => fin_quiet hb hs _ (by decide))
theorem fin_comma {t : Tok} {x : E} {r : List UInt8} (hb : Bd r) (hs : Sf s p r) (h : RdS s bash .unary d t x (nextF s bash p)) : RdS s bash .comma d t x (nextF s bash p) :=
  (fin_assign hb hs h).comma (fin_quiet hb hs _ (by decide))
/-- From a level on, where the expression is read. -/
theorem fin_low {t : Tok} {x : E} {r : List UInt8} {n : Nat} (hn : n ≤ 10) (hb : Bd r) (hs : Sf s p r) (h : RdS s bash (.level n) d t x (nextF s bash p)) : RdS s bash .comma d t x (nextF s bash p) :=
  ((((h.bottom hn (fun i _ => fin_quiet hb hs _ (levels_r i))).choice (fin_quiet hb hs _ (by decide))).assign (fun _ => fin_quiet hb hs _ (by decide))).comma (fin_quiet hb hs _ (by decide)))
end
/-- What is said of an expression. -/
def Cm (x : E) : Prop := ∀ (bash : Bool) (s : ByteArray) (p d m : Nat) (r : List UInt8), allF x = true → (bash = true ∨ plainF x = true) → NumE x → Sf s p (textF x ++ r) → Bd r → Dp m x → d + 2 * m + 1 ≤ 60 →
  RdS s bash .comma d (nextF s bash p) x (nextF s bash (p + (textF x).length))
/-- A leaf. -/
theorem leaf_cases {x : E} (h : singleF x = true) (h0 : x.op.size = 0) : (∃ n : Nat, x = numE n ∧ textF x = decs n ∧ x.num = n) ∨ (∃ b, x = varE b ∧ nameOf b = true ∧ textF x = b.data.toList) := by
  rw [single_leaf h0] at h
  obtain ⟨op, nm, n, ks⟩ := x
  have h0 : op.size = 0 := h0
  rw [Bool.and_eq_true, Bool.and_eq_true, Bool.or_eq_true, Bool.and_eq_true] at h
  obtain ⟨hk, hn, h⟩ := h
  have hk1 : ks.length = 0 := of_decide_eq_true hk
  have hn1 : 0 ≤ n := of_decide_eq_true hn
  clear hk hn
  have hks : ks = [] := List.eq_nil_of_length_eq_zero hk1
  subst hks
  have hop : op = em := ba_eq (List.eq_nil_of_length_eq_zero (by rw [← Lib.size_eq]; exact h0))
  subst hop
  rcases h with h | ⟨h1, h2⟩
  · have h : nm.size = 0 := of_decide_eq_true h
    have hnm : nm = em := ba_eq (List.eq_nil_of_length_eq_zero (by rw [← Lib.size_eq]; exact h))
    subst hnm
    refine .inl ⟨n.toNat, ?_, ?_, ?_⟩
    · show E.mk em em n [] = E.mk em em ((n.toNat : Nat) : Int) []
      rw [Int.toNat_of_nonneg hn1]
    · rw [textF]
      unfold textK
      rw [if_neg (by decide), if_pos (by decide)]
      unfold decsInt
      rw [if_neg (by omega)]
      congr 1
      omega
    · show n = ((n.toNat : Nat) : Int)
      omega
  · have h1 : n = 0 := of_decide_eq_true h1
    have h2 : nameOf nm = true := h2
    subst h1
    refine .inr ⟨nm, rfl, h2, ?_⟩
    rw [textF]
    unfold textK
    rw [if_pos]
    have h3 := name_pos h2
    exact Nat.pos_iff_ne_zero.1 h3
section
variable {bash : Bool} {s : ByteArray} {p d m : Nat}
/-- A kid: a leaf, or in parentheses. -/
theorem closed_reads {k : E} (hk : Cm k) {r : List UInt8} (ha : allF k = true) (hp : bash = true ∨ plainF k = true) (hn : NumE k) (hs : Sf s p (closedF k ++ r)) (hr : NoPart r) (hm : Dp m k) (hd : d + 2 * m + 2 ≤ 60)
    (hq : Quiet (nextF s bash) stepL (nextF s bash (p + (closedF k).length))) : RdS s bash .unary d (nextF s bash p) k (nextF s bash (p + (closedF k).length)) := by
  by_cases h0 : k.op.size = 0
  · have e : closedF k = textF k := by unfold closedF closeL; rw [if_pos h0]
    rw [e] at hs hq ⊢
    rcases leaf_cases (allF_inv ha).1 h0 with ⟨n, hx, ht, hnn⟩ | ⟨b, hx, hb, ht⟩
    · have hb : n < 9223372036854775808 := by have := hn.here; rw [hnn] at this; omega
      rw [ht] at hs hq ⊢
      have tk := tok_num hb hs hr bash
      have h1 : RdS s bash .post (d + 1) (nextF s bash p) (litE (litV (nextF s bash p).text)) (nextF s bash (nextF s bash p).to_) := Rd.num (by rw [tk])
      rw [tk] at h1
      have h2 : litE (litV ⟨(decs n).toArray⟩) = k := by
        rw [litV_decs n hb, hx]
        unfold litE
        rw [if_pos (by omega)]
      have h1 : RdS s bash .post (d + 1) ⟨1, ⟨(decs n).toArray⟩, p, p + (decs n).length⟩ (litE (litV ⟨(decs n).toArray⟩)) (nextF s bash (p + (decs n).length)) := h1
      rw [h2] at h1
      rw [tk]
      exact Rd.unary (by omega) (quiet_kind (by show (1 : Nat) ≠ 3; decide)) h1
    · rw [ht, ← Lib.size_eq] at hq
      rw [ht] at hs ⊢
      rw [← Lib.size_eq]
      have tk := tok_name hb hs hr bash
      have h1 : RdS s bash .post (d + 1) (nextF s bash p) (varE (nextF s bash p).text) (nextF s bash (nextF s bash p).to_) := Rd.var (by rw [tk]) (by rw [tk]; exact hq)
      rw [tk] at h1
      have h1 : RdS s bash .post (d + 1) ⟨2, b, p, p + b.size⟩ (varE b) (nextF s bash (p + b.size)) := h1
      rw [← hx] at h1
      rw [tk]
      exact Rd.unary (by omega) (quiet_kind (by show (2 : Nat) ≠ 3; decide)) h1
  · have e : closedF k = 40 :: (textF k ++ [41]) := by unfold closedF closeL; rw [if_neg h0]
    rw [e] at hs hq ⊢
    have hs0 : Sf s p (40 :: (textF k ++ 41 :: r)) := by simpa using hs
    have tk := tok_open hs0 bash
    have hs1 := hs0.one
    have hc := hk bash s (p + 1) (d + 1) m (41 :: r) ha hp hn hs1 (.inr ⟨r, rfl⟩) hm (by omega)
    have hs2 : Sf s (p + 1 + (textF k).length) (41 :: r) := hs1.app
    have tc := tok_close hs2 bash
    have hl : p + (40 :: (textF k ++ [41])).length = p + 1 + (textF k).length + 1 := by simp; omega
    rw [hl]
    have h1 : RdS s bash .post (d + 1) (nextF s bash p) k (nextF s bash (nextF s bash (p + 1 + (textF k).length)).to_) := Rd.paren (by rw [tk]) (by rw [tk]) (by rw [tk]; exact hc) (by rw [tc]) (by rw [tc])
    rw [tc] at h1
    rw [tk] at h1 ⊢
    exact Rd.unary (by omega) (op_quiet (by decide)) h1
/-- Behind an operator: the blank, and what is behind it. -/
theorem op_after {g : ByteArray} {r : List UInt8} (hs : Sf s p (32 :: (g.data.toList ++ 32 :: r))) (hg : inL blankSigns g = true) (hb : bash = true ∨ ¬ g = sPw) :
    nextF s bash p = ⟨3, g, p + 1, p + 1 + g.size⟩ ∧ Sf s (p + 1 + g.size + 1) r ∧ nextF s bash (p + 1 + g.size) = nextF s bash (p + 1 + g.size + 1) := by
  have h1 := tok_blank hs bash
  have h2 := tok_op hg hs.one bash hb
  have h3 := hs.one.app
  rw [← Lib.size_eq] at h3
  exact ⟨h1.trans h2, h3.one, tok_blank h3 bash⟩
end
theorem textK_bin {op : ByteArray} {n : Int} {ks : List E} {cs : List (List UInt8)} (h0 : ¬ op.size = 0) (h1 : ¬ op = sNeg) (h2 : inL singlesL op = false) (h3 : preOf op = false) (h4 : postOf op = false) (h5 : ¬ op = sTern) :
    textK op em n ks cs = cs.getD 0 [] ++ 32 :: (op.data.toList ++ 32 :: cs.getD 1 []) := by
  unfold textK
  rw [if_neg (by decide), if_neg h0, if_neg h1, h2, if_neg (by decide), h3, if_neg (by decide), h4, if_neg (by decide), if_neg h5]
theorem textK_tern {n : Int} {ks : List E} {cs : List (List UInt8)} : textK sTern em n ks cs = cs.getD 0 [] ++ 32 :: 63 :: 32 :: (cs.getD 1 [] ++ 32 :: 58 :: 32 :: cs.getD 2 []) := by
  unfold textK
  rw [if_neg (by decide), if_neg (by decide), if_neg (by decide), if_neg (by decide), if_neg (by decide), if_neg (by decide), if_pos rfl]
theorem textK_neg {n : Int} {ks : List E} {cs : List (List UInt8)} : textK sNeg em n ks cs = 45 :: 32 :: cs.getD 0 [] := by
  unfold textK
  rw [if_neg (by decide), if_neg (by decide), if_pos rfl]
theorem textK_un {op : ByteArray} {n : Int} {ks : List E} {cs : List (List UInt8)} (h0 : ¬ op.size = 0) (h1 : ¬ op = sNeg) (h2 : inL singlesL op = true) : textK op em n ks cs = op.data.toList ++ 32 :: cs.getD 0 [] := by
  unfold textK
  rw [if_neg (by decide), if_neg h0, if_neg h1, if_pos h2]
theorem textK_pre {op : ByteArray} {n : Int} {ks : List E} {cs : List (List UInt8)} (h0 : ¬ op.size = 0) (h1 : ¬ op = sNeg) (h2 : inL singlesL op = false) (h3 : preOf op = true) : textK op em n ks cs = op.data.toList.drop 3 ++ kidName ks := by
  unfold textK
  rw [if_neg (by decide), if_neg h0, if_neg h1, h2, if_neg (by decide), if_pos h3]
theorem textK_post {op : ByteArray} {n : Int} {ks : List E} {cs : List (List UInt8)} (h0 : ¬ op.size = 0) (h1 : ¬ op = sNeg) (h2 : inL singlesL op = false) (h3 : preOf op = false) (h4 : postOf op = true) : textK op em n ks cs = kidName ks ++ op.data.toList.drop 4 := by
  unfold textK
  rw [if_neg (by decide), if_neg h0, if_neg h1, h2, if_neg (by decide), h3, if_neg (by decide), if_pos h4]
/-- What is told of a binary operator by its list. -/
def binOk (op : ByteArray) : Bool := !decide (op.size = 0) && (!decide (op = sNeg) && (!inL singlesL op && (!preOf op && (!postOf op && (!decide (op = sTern) && (inL blankSigns op && (!inL stepL op && !inL [sQu] op)))))))
theorem bin_inv {op : ByteArray} (h : binOk op = true) : ¬ op.size = 0 ∧ ¬ op = sNeg ∧ inL singlesL op = false ∧ preOf op = false ∧ postOf op = false ∧ ¬ op = sTern ∧ inL blankSigns op = true ∧ inL stepL op = false ∧ inL [sQu] op = false := by
  unfold binOk at h
  simp only [Bool.and_eq_true, Bool.not_eq_true', decide_eq_false_iff_not] at h
  exact h
theorem assigns_bin : ∀ op ∈ assignsL, binOk op = true ∧ inL [sPw] op = false ∧ (List.range 10).all (fun n => !inL (levelsL n) op) = true := by decide +kernel
theorem comma_bin : binOk sCo = true ∧ inL [sPw] sCo = false ∧ (List.range 10).all (fun n => !inL (levelsL n) sCo) = true ∧ inL assignsL sCo = false := by decide +kernel
theorem power_bin : binOk sPw = true := by decide +kernel
theorem quest_signs : inL blankSigns sQu = true ∧ inL stepL sQu = false ∧ inL [sPw] sQu = false ∧ (List.range 10).all (fun n => !inL (levelsL n) sQu) = true := by decide +kernel
theorem colon_signs : inL blankSigns sCl = true ∧ inL stepL sCl = false ∧ inL [sPw] sCl = false ∧ (List.range 10).all (fun n => !inL (levelsL n) sCl) = true ∧ inL [sQu] sCl = false ∧ inL assignsL sCl = false := by decide +kernel
theorem doubles_cases : ∀ op ∈ doublesL, op = sCo ∨ op = sPw ∨ (binOk op = true ∧ inL [sPw] op = false ∧ (List.range 10).any (fun n => inL (levelsL n) op && (List.range 10).all (fun i => decide (i ≤ n) || !inL (levelsL i) op)) = true) := by decide +kernel
theorem all_range {P : Nat → Bool} (h : (List.range 10).all P = true) : ∀ n, n < 10 → P n = true := fun n hn => List.all_eq_true.1 h n (List.mem_range.2 hn)
theorem two_kids {l : List E} (h : l.length = 2) : ∃ a b, l = [a, b] := by
  match l, h with
  | [a, b], _ => exact ⟨a, b, rfl⟩
theorem one_kid {l : List E} (h : l.length = 1) : ∃ a, l = [a] := by
  match l, h with
  | [a], _ => exact ⟨a, rfl⟩
theorem three_kids {l : List E} (h : l.length = 3) : ∃ a b c, l = [a, b, c] := by
  match l, h with
  | [a, b, c], _ => exact ⟨a, b, c, rfl⟩
theorem node_shape {x : E} (h : singleF x = true) (h0 : ¬ x.op.size = 0) : x.name = em ∧ x.num = 0 ∧ (x.kids.length : Int) = (countF x.op).1 ∧ ((countF x.op).2 = true → headVar x.kids = true) := by
  rw [single_node h0, Bool.and_eq_true, Bool.and_eq_true, Bool.and_eq_true, Bool.or_eq_true] at h
  obtain ⟨h1, h2, h3, h4⟩ := h
  refine ⟨ba_eq (List.eq_nil_of_length_eq_zero (by rw [← Lib.size_eq]; exact of_decide_eq_true h1)), of_decide_eq_true h2, of_decide_eq_true h3, fun hc => ?_⟩
  rw [hc] at h4
  rcases h4 with h4 | h4
  · cases h4
  · exact h4
theorem dp_kids {x : E} {m : Nat} (h : Dp m x) (hk : x.kids ≠ []) : ∃ m', m = m' + 1 ∧ ∀ k ∈ x.kids, Dp m' k := by
  cases m with
  | zero => exact absurd h hk
  | succ m => exact ⟨m, rfl, h⟩
theorem var_leaf {k : E} (ha : allF k = true) (hv : isVar k = true) : ∃ b, k = varE b ∧ nameOf b = true := by
  unfold isVar at hv
  rw [Bool.and_eq_true, beq_iff_eq] at hv
  rcases leaf_cases (allF_inv ha).1 hv.1 with ⟨n, hx, _, _⟩ | ⟨b, hx, hb, _⟩
  · rw [hx] at hv
    exact absurd hv.2 (show ¬ (!(em.size == 0)) = true by decide)
  · exact ⟨b, hx, hb⟩
theorem isVar_node {x : E} (h : ¬ x.op.size = 0) : isVar x = false := by
  unfold isVar
  rw [beq_eq_false_iff_ne.2 h]
  rfl
end Go.Proofs.YtlbgnpllbogkeaaDoor.Ext
end

section
set_option linter.unusedVariables false
set_option linter.unusedSimpArgs false
namespace Go.Proofs.YtlbgnpllbogkeaaDoor.Ext
open Go.RowKit Go.Proofs.YtlbgnpllbogkeaaDoorW.PrintWords
section
variable {bash : Bool} {s : ByteArray} {p d m : Nat} {r : List UInt8}
/-- An expression of two, up to the operator; what is behind it stands at q. -/
theorem first_kid {k : E} (hk : Cm k) {g : ByteArray} {l : List UInt8} (ha : allF k = true) (hp : bash = true ∨ plainF k = true) (hn : NumE k) (hs : Sf s p (closedF k ++ 32 :: (g.data.toList ++ 32 :: l))) (hm : Dp m k) (hd : d + 2 * m + 2 ≤ 60) (hg : inL blankSigns g = true) (hb : bash = true ∨ ¬ g = sPw) (hst : inL stepL g = false) :
    ∃ e, RdS s bash .unary d (nextF s bash p) k ⟨3, g, e, e + g.size⟩ ∧ Sf s (e + g.size + 1) l ∧ nextF s bash (e + g.size) = nextF s bash (e + g.size + 1) ∧ e = p + (closedF k).length + 1 := by
  obtain ⟨h1, h2, h3⟩ := op_after (hs.app) hg hb
  have h4 := closed_reads hk (r := 32 :: (g.data.toList ++ 32 :: l)) ha hp hn hs (noPart_32 _) hm hd (by rw [h1]; exact op_quiet hst)
  rw [h1] at h4
  exact ⟨p + (closedF k).length + 1, h4, h2, h3, rfl⟩
/-- The last of them. -/
theorem last_kid {k : E} (hk : Cm k) (ha : allF k = true) (hp : bash = true ∨ plainF k = true) (hn : NumE k) (hs : Sf s p (closedF k ++ r)) (hr : Bd r) (hm : Dp m k) (hd : d + 2 * m + 2 ≤ 60) :
    RdS s bash .unary d (nextF s bash p) k (nextF s bash (p + (closedF k).length)) :=
  closed_reads hk ha hp hn hs hr.noPart hm hd (fin_quiet hr hs.app _ (by decide))
theorem back_double {op : ByteArray} {a b : E} (ka : Cm a) (kb : Cm b) (ho : op ∈ doublesL) (haa : allF a = true) (hab : allF b = true) (hpa : bash = true ∨ plainF a = true) (hpb : bash = true ∨ plainF b = true) (hpw : bash = true ∨ ¬ op = sPw) (hna : NumE a) (hnb : NumE b)
    (hs : Sf s p (closedF a ++ 32 :: (op.data.toList ++ 32 :: (closedF b ++ r)))) (hr : Bd r) (hma : Dp m a) (hmb : Dp m b) (hd : d + 2 * m + 3 ≤ 60) : RdS s bash .comma d (nextF s bash p) (bi op a b) (nextF s bash (p + (closedF a ++ 32 :: (op.data.toList ++ 32 :: closedF b)).length)) := by
  have hbin : binOk op = true := by
    rcases doubles_cases op ho with h | h | h
    · rw [h]; exact comma_bin.1
    · rw [h]; exact power_bin
    · exact h.1
  obtain ⟨b0, b1, b2, b3, b4, b5, b6, b7, b8⟩ := bin_inv hbin
  obtain ⟨e, h1, h2, h3, he⟩ := first_kid ka haa hpa hna hs hma (d := d) (by omega) b6 hpw b7
  have hlen : p + (closedF a ++ 32 :: (op.data.toList ++ 32 :: closedF b)).length = e + op.size + 1 + (closedF b).length := by
    rw [he, Lib.size_eq]
    simp only [List.length_append, List.length_cons]
    omega
  rw [hlen]
  have hfin : Sf s (e + op.size + 1 + (closedF b).length) r := h2.app
  rcases doubles_cases op ho with h | h | ⟨_, hq, hl⟩
  · subst h
    obtain ⟨_, q1, q2, q3⟩ := comma_bin
    have hb := last_kid kb (d := d) hab hpb hnb h2 hr hmb (by omega)
    have u1 := ((up_level h1 0 (Nat.zero_le _) (op_quiet q1) (fun n _ hn => op_quiet (by simpa using all_range q2 n hn))).choice (op_quiet b8)).assign (fun _ => op_quiet q3)
    have u2 := fin_assign (t := nextF s bash (e + sCo.size)) hr hfin (by rw [h3]; exact hb)
    exact Rd.comma2 u1 rfl rfl u2 (fin_quiet hr hfin _ (by decide))
  · subst h
    have hb := last_kid kb (d := d + 1) hab hpb hnb h2 hr hmb (by omega)
    have u2 : RdS s bash .power (d + 1) (nextF s bash (e + sPw.size)) b _ := Rd.power (by rw [h3]; exact hb) (fin_quiet hr hfin _ (by decide))
    have u3 := Rd.top (Rd.power2 (by omega) h1 rfl rfl u2)
    exact fin_low (Nat.le_refl _) hr hfin u3
  · have hb := last_kid kb (d := d) hab hpb hnb h2 hr hmb (by omega)
    obtain ⟨n, hn, hl⟩ := List.any_eq_true.1 hl
    have hn := List.mem_range.1 hn
    rw [Bool.and_eq_true] at hl
    have hq2 : ∀ i, n + 1 ≤ i → i < 10 → inL (levelsL i) op = false := by
      intro i h4 h5
      have := all_range hl.2 i h5
      rw [Bool.or_eq_true] at this
      rcases this with h6 | h6
      · have := of_decide_eq_true h6
        omega
      · simpa using h6
    have u1 := up_level h1 (n + 1) (by omega) (op_quiet hq) (fun i h4 h5 => op_quiet (hq2 i h4 h5))
    have u2 := fin_level (t := nextF s bash (e + op.size)) hr hfin (by rw [h3]; exact hb) (n + 1) (by omega)
    have u3 := Rd.level2 hn u1 rfl rfl (inL_iff.1 hl.1) u2 (fin_quiet hr hfin _ (levels_r n))
    exact fin_low (by omega) hr hfin u3
theorem back_assign {op : ByteArray} {a b : E} (ka : Cm a) (kb : Cm b) (ho : op ∈ assignsL) (hv : isVar a = true) (haa : allF a = true) (hab : allF b = true) (hpa : bash = true ∨ plainF a = true) (hpb : bash = true ∨ plainF b = true) (hna : NumE a) (hnb : NumE b)
    (hs : Sf s p (closedF a ++ 32 :: (op.data.toList ++ 32 :: (closedF b ++ r)))) (hr : Bd r) (hma : Dp m a) (hmb : Dp m b) (hd : d + 2 * m + 3 ≤ 60) : RdS s bash .comma d (nextF s bash p) (bi op a b) (nextF s bash (p + (closedF a ++ 32 :: (op.data.toList ++ 32 :: closedF b)).length)) := by
  obtain ⟨hbin, q1, q2⟩ := assigns_bin op ho
  obtain ⟨b0, b1, b2, b3, b4, b5, b6, b7, b8⟩ := bin_inv hbin
  have hpw : ¬ op = sPw := by
    intro h
    rw [h] at q1
    exact absurd q1 (by decide)
  obtain ⟨e, h1, h2, h3, he⟩ := first_kid ka haa hpa hna hs hma (d := d) (by omega) b6 (.inr hpw) b7
  have hlen : p + (closedF a ++ 32 :: (op.data.toList ++ 32 :: closedF b)).length = e + op.size + 1 + (closedF b).length := by
    rw [he, Lib.size_eq]
    simp only [List.length_append, List.length_cons]
    omega
  rw [hlen]
  have hfin : Sf s (e + op.size + 1 + (closedF b).length) r := h2.app
  have hb := last_kid kb (d := d + 1) hab hpb hnb h2 hr hmb (by omega)
  have u1 := (up_level h1 0 (Nat.zero_le _) (op_quiet q1) (fun n _ hn => op_quiet (by simpa using all_range q2 n hn))).choice (op_quiet b8)
  have u2 := fin_assign (t := nextF s bash (e + op.size)) hr hfin (by rw [h3]; exact hb)
  exact (Rd.assign2 (by omega) u1 hv rfl rfl ho u2).comma (fin_quiet hr hfin _ (by decide))
theorem back_tern {a b c : E} (ka : Cm a) (kb : Cm b) (kc : Cm c) (haa : allF a = true) (hab : allF b = true) (hac : allF c = true) (hpa : bash = true ∨ plainF a = true) (hpb : bash = true ∨ plainF b = true) (hpc : bash = true ∨ plainF c = true) (hna : NumE a) (hnb : NumE b) (hnc : NumE c)
    (hs : Sf s p (closedF a ++ 32 :: 63 :: 32 :: (closedF b ++ 32 :: 58 :: 32 :: (closedF c ++ r)))) (hr : Bd r) (hma : Dp m a) (hmb : Dp m b) (hmc : Dp m c) (hd : d + 2 * m + 3 ≤ 60) :
    RdS s bash .comma d (nextF s bash p) (.mk sTern em 0 [a, b, c]) (nextF s bash (p + (closedF a ++ 32 :: 63 :: 32 :: (closedF b ++ 32 :: 58 :: 32 :: closedF c)).length)) := by
  obtain ⟨q0, q1, q2, q3⟩ := quest_signs
  obtain ⟨c0, c1, c2, c3, c4, c5⟩ := colon_signs
  obtain ⟨e, h1, h2, h3, he⟩ := first_kid (g := sQu) ka haa hpa hna hs hma (d := d) (by omega) q0 (.inr (by decide)) q1
  obtain ⟨e', g1, g2, g3, ge⟩ := first_kid (g := sCl) kb hab hpb hnb h2 hmb (d := d + 1) (by omega) c0 (.inr (by decide)) c1
  have z1 : sQu.size = 1 := rfl
  have z2 : sCl.size = 1 := rfl
  have hlen : p + (closedF a ++ 32 :: 63 :: 32 :: (closedF b ++ 32 :: 58 :: 32 :: closedF c)).length = e' + sCl.size + 1 + (closedF c).length := by
    rw [ge, he, z1, z2]
    simp only [List.length_append, List.length_cons]
    omega
  rw [hlen]
  have hfin : Sf s (e' + sCl.size + 1 + (closedF c).length) r := g2.app
  have hc := last_kid kc (d := d + 1) hac hpc hnc g2 hr hmc (by omega)
  have u1 := up_level h1 0 (Nat.zero_le _) (op_quiet q2) (fun n _ hn => op_quiet (by simpa using all_range q3 n hn))
  have u2 : RdS s bash .assign (d + 1) (nextF s bash (e + sQu.size)) b ⟨3, sCl, e', e' + sCl.size⟩ := by
    rw [h3]
    exact ((up_level g1 0 (Nat.zero_le _) (op_quiet c2) (fun n _ hn => op_quiet (by simpa using all_range c3 n hn))).choice (op_quiet c4)).assign (fun _ => op_quiet c5)
  have u3 := fin_choice (t := nextF s bash (e' + sCl.size)) hr hfin (by rw [g3]; exact hc)
  exact ((Rd.choice3 (by omega) u1 rfl rfl u2 rfl rfl u3).assign (fun h => by rw [isVar_node (show ¬ (E.mk sTern em 0 [a, b, c]).op.size = 0 from (by decide : ¬ sTern.size = 0))] at h; cases h)).comma (fin_quiet hr hfin _ (by decide))
theorem back_neg {a : E} (ka : Cm a) (haa : allF a = true) (hpa : bash = true ∨ plainF a = true) (hna : NumE a) (hs : Sf s p (45 :: 32 :: (closedF a ++ r))) (hr : Bd r) (hma : Dp m a) (hd : d + 2 * m + 3 ≤ 60) :
    RdS s bash .comma d (nextF s bash p) (un sNeg a) (nextF s bash (p + (45 :: 32 :: closedF a).length)) := by
  have tk := tok_op (g := sMinus) (by decide +kernel) hs bash (.inr (by decide))
  have h1 := hs.one.one
  have h2 := tok_blank hs.one bash
  have hfin : Sf s (p + 1 + 1 + (closedF a).length) r := h1.app
  have hb := last_kid ka (d := d + 1) haa hpa hna h1 hr hma (by omega)
  have hlen : p + (45 :: 32 :: closedF a).length = p + 1 + 1 + (closedF a).length := by
    simp only [List.length_cons]
    omega
  rw [hlen, tk]
  refine fin_comma hr hfin (Rd.neg (by omega) rfl rfl ?_)
  show Rd _ _ .unary (d + 1) (nextF s bash (p + 1)) a _
  rw [h2]
  exact hb
theorem back_un {op : ByteArray} {a : E} (ka : Cm a) (ho : op = ⟨#[33]⟩ ∨ op = ⟨#[126]⟩) (haa : allF a = true) (hpa : bash = true ∨ plainF a = true) (hna : NumE a) (hs : Sf s p (op.data.toList ++ 32 :: (closedF a ++ r))) (hr : Bd r) (hma : Dp m a) (hd : d + 2 * m + 3 ≤ 60) :
    RdS s bash .comma d (nextF s bash p) (un op a) (nextF s bash (p + (op.data.toList ++ 32 :: closedF a).length)) := by
  have hop : inL blankSigns op = true ∧ ¬ op = sPw ∧ inL unaryL op = true ∧ ¬ op = sPlus ∧ ¬ op = sMinus ∧ ¬ (op = sInc ∨ op = sDec) := by
    rcases ho with h | h <;> rw [h] <;> decide +kernel
  obtain ⟨o1, o2, o3, o4, o5, o6⟩ := hop
  have tk := tok_op (g := op) o1 hs bash (.inr o2)
  have h0 := hs.app
  rw [← Lib.size_eq] at h0
  have h1 := h0.one
  have h2 := tok_blank h0 bash
  have hfin : Sf s (p + op.size + 1 + (closedF a).length) r := h1.app
  have hb := last_kid ka (d := d + 1) haa hpa hna h1 hr hma (by omega)
  have hlen : p + (op.data.toList ++ 32 :: closedF a).length = p + op.size + 1 + (closedF a).length := by
    rw [Lib.size_eq]
    simp only [List.length_append, List.length_cons]
    omega
  rw [hlen, tk]
  refine fin_comma hr hfin (Rd.un (by omega) rfl rfl (inL_iff.1 o3) o4 o5 o6 ?_)
  show Rd _ _ .unary (d + 1) (nextF s bash (p + op.size)) a _
  rw [h2]
  exact hb
theorem back_pre {b o : ByteArray} (hbt : bash = true) (ho : o = sInc ∨ o = sDec) (hb : nameOf b = true) (hs : Sf s p (o.data.toList ++ (b.data.toList ++ r))) (hr : Bd r) (hd : d + 3 ≤ 60) :
    RdS s bash .comma d (nextF s bash p) (un (sPre ++ o) (varE b)) (nextF s bash (p + (o.data.toList ++ b.data.toList).length)) := by
  subst hbt
  have tk : nextF s true p = ⟨3, o, p, p + 2⟩ := by
    rcases ho with h | h
    · subst h; exact tok_inc hs
    · subst h; exact tok_dec hs
  have hsz : o.data.toList.length = 2 := by rcases ho with h | h <;> rw [h] <;> rfl
  have h1 := hs.app
  rw [hsz] at h1
  have tn := tok_name hb h1 hr.noPart true
  have hfin : Sf s (p + 2 + b.size) r := by rw [Lib.size_eq]; exact h1.app
  have hlen : p + (o.data.toList ++ b.data.toList).length = p + 2 + b.size := by
    rw [Lib.size_eq, List.length_append, hsz]
    omega
  rw [hlen, tk]
  refine fin_comma hr hfin ?_
  have h2 : RdS s true .unary d ⟨3, o, p, p + 2⟩ (un (sPre ++ o) (varE (nextF s true (p + 2)).text)) (nextF s true (nextF s true (p + 2)).to_) := Rd.pre (t := ⟨3, o, p, p + 2⟩) (by omega) rfl rfl ho (by show (nextF s true (p + 2)).kind = 2; rw [tn])
  rw [tn] at h2
  exact h2
theorem back_post {b o : ByteArray} (hbt : bash = true) (ho : o = sInc ∨ o = sDec) (hb : nameOf b = true) (hs : Sf s p (b.data.toList ++ (o.data.toList ++ r))) (hr : Bd r) (hd : d + 3 ≤ 60) :
    RdS s bash .comma d (nextF s bash p) (un (sPost ++ o) (varE b)) (nextF s bash (p + (b.data.toList ++ o.data.toList).length)) := by
  subst hbt
  have hsz : o.data.toList.length = 2 := by rcases ho with h | h <;> rw [h] <;> rfl
  have hnp : NoPart (o.data.toList ++ r) := by
    intro c l e
    rcases ho with h | h
    · rw [h] at e; cases e; decide
    · rw [h] at e; cases e; decide
  have tn := tok_name hb hs hnp true
  have h1 := hs.app
  rw [← Lib.size_eq] at h1
  have tk : nextF s true (p + b.size) = ⟨3, o, p + b.size, p + b.size + 2⟩ := by
    rcases ho with h | h
    · subst h; exact tok_inc h1
    · subst h; exact tok_dec h1
  have hfin : Sf s (p + b.size + 2) r := by
    have := h1.app
    rwa [hsz] at this
  have hlen : p + (b.data.toList ++ o.data.toList).length = p + b.size + 2 := by
    rw [Lib.size_eq, List.length_append, hsz]
    omega
  rw [hlen, tn]
  refine fin_comma hr hfin (Rd.unary (by omega) (quiet_kind (by show (2 : Nat) ≠ 3; decide)) ?_)
  have hm : inL stepL o = true := by rcases ho with h | h <;> rw [h] <;> decide
  have h2 : RdS s true .post (d + 1) ⟨2, b, p, p + b.size⟩ (un (sPost ++ (nextF s true (p + b.size)).text) (varE b)) (nextF s true (nextF s true (p + b.size)).to_) :=
    Rd.step (t := ⟨2, b, p, p + b.size⟩) rfl (by show (nextF s true (p + b.size)).kind = 3; rw [tk]) (by show (nextF s true (p + b.size)).text ∈ stepL; rw [tk]; exact inL_iff.1 hm)
  rw [tk] at h2
  exact h2
end
theorem pre_cases : ∀ op ∈ stepsL, (preOf op = true ∧ (op = sPre ++ sInc ∨ op = sPre ++ sDec)) ∨ (preOf op = false ∧ postOf op = true ∧ (op = sPost ++ sInc ∨ op = sPost ++ sDec)) := by decide +kernel
theorem steps_fine : ∀ op ∈ stepsL, ¬ op.size = 0 ∧ ¬ op = sNeg ∧ inL singlesL op = false := by decide +kernel
theorem cm_all (x : E) : Cm x := by
  refine E.ind (P := Cm) (fun op nm n ks ih => ?_) x
  intro bash s p d m r ha hp hn hs hr hm hd
  obtain ⟨hs1, hkids⟩ := allF_inv ha
  have hpk : ∀ k ∈ (E.mk op nm n ks).kids, bash = true ∨ plainF k = true := by
    intro k hk
    rcases hp with hp | hp
    · exact .inl hp
    · exact .inr ((plainF_inv hp).2 k hk)
  by_cases h0 : op.size = 0
  · have hlf : closedF (E.mk op nm n ks) = textF (E.mk op nm n ks) := by
      unfold closedF closeL
      rw [if_pos (show (E.mk op nm n ks).op.size = 0 from h0)]
    have hfin : Sf s (p + (textF (E.mk op nm n ks)).length) r := hs.app
    refine fin_comma hr hfin ?_
    rcases leaf_cases hs1 h0 with ⟨q, hx, ht, hnn⟩ | ⟨b, hx, hb, ht⟩
    · have hb : q < 9223372036854775808 := by have := hn.here; rw [hnn] at this; omega
      rw [ht] at hs ⊢
      have tk := tok_num hb hs hr.noPart bash
      have h1 : RdS s bash .post (d + 1) ⟨1, ⟨(decs q).toArray⟩, p, p + (decs q).length⟩ (litE (litV ⟨(decs q).toArray⟩)) (nextF s bash (p + (decs q).length)) := Rd.num rfl
      have h2 : litE (litV ⟨(decs q).toArray⟩) = E.mk op nm n ks := by
        rw [litV_decs q hb, hx]
        unfold litE
        rw [if_pos (by omega)]
      rw [h2] at h1
      rw [tk]
      exact Rd.unary (by omega) (quiet_kind (by show (1 : Nat) ≠ 3; decide)) h1
    · rw [ht] at hs hfin ⊢
      rw [← Lib.size_eq] at hfin ⊢
      have tk := tok_name hb hs hr.noPart bash
      have h1 : RdS s bash .post (d + 1) ⟨2, b, p, p + b.size⟩ (varE b) (nextF s bash (p + b.size)) := Rd.var rfl (fin_quiet hr hfin _ (by decide))
      rw [← hx] at h1
      rw [tk]
      exact Rd.unary (by omega) (quiet_kind (by show (2 : Nat) ≠ 3; decide)) h1
  · obtain ⟨e1, e2, e3, e4⟩ := node_shape hs1 h0
    have e1 : nm = em := e1
    have e2 : n = 0 := e2
    have j3 : (ks.length : Int) = (countF op).1 := e3
    have j4 : (countF op).2 = true → headVar ks = true := e4
    clear e3 e4
    subst e1
    subst e2
    have htx : textF (E.mk op em 0 ks) = textK op em 0 ks (ks.map closedF) := textF_eq _
    rw [htx] at hs ⊢
    have hne : ks ≠ [] → ∃ m', m = m' + 1 ∧ ∀ k ∈ ks, Dp m' k := dp_kids hm
    rcases count_cases op with ⟨c1, hc⟩ | ⟨c1, c2, hc⟩ | ⟨c1, c2, c3, hc⟩ | ⟨c1, c2, c3, c4, hc⟩ | ⟨c1, c2, c3, c4, c5, hc⟩ | ⟨c1, c2, c3, c4, c5, hc⟩
    · rw [hc] at j3
      obtain ⟨a, rfl⟩ := one_kid (show ks.length = 1 by omega)
      obtain ⟨m', rfl, hmk⟩ := hne (by simp)
      have ma : a ∈ (E.mk op em 0 [a]).kids := List.mem_singleton.2 rfl
      have key : ∀ o ∈ singlesL, o = sNeg ∨ (¬ o = sNeg ∧ (o = ⟨#[33]⟩ ∨ o = ⟨#[126]⟩)) := by decide
      rcases key op (inL_iff.1 c1) with h | ⟨h, h'⟩
      · subst h
        rw [textK_neg] at hs ⊢
        exact back_neg (ih a ma) (hkids a ma) (hpk a ma) (hn.kid ma) hs hr (hmk a ma) (by omega)
      · rw [textK_un h0 h c1] at hs ⊢
        exact back_un (ih a ma) h' (hkids a ma) (hpk a ma) (hn.kid ma) (by simpa using hs) hr (hmk a ma) (by omega)
    · rw [hc] at j3 j4
      obtain ⟨a, rfl⟩ := one_kid (show ks.length = 1 by omega)
      obtain ⟨m', rfl, hmk⟩ := hne (by simp)
      have ma : a ∈ (E.mk op em 0 [a]).kids := List.mem_singleton.2 rfl
      have hst := inL_iff.1 c2
      have hbt : bash = true := by
        rcases hp with hp | hp
        · exact hp
        · have := (plainF_inv hp).1
          unfold bashE at this
          rw [Bool.or_eq_false_iff] at this
          rw [show (E.mk op em 0 [a]).op = op from rfl, c2] at this
          exact absurd this.2 (by decide)
      obtain ⟨b, rfl, hb⟩ := var_leaf (hkids a ma) (j4 rfl)
      obtain ⟨f0, f1, f2⟩ := steps_fine op hst
      rcases pre_cases op hst with ⟨g1, g2⟩ | ⟨g1, g2, g3⟩
      · rw [textK_pre f0 f1 f2 g1] at hs ⊢
        rcases g2 with g2 | g2
        · subst g2
          exact back_pre hbt (.inl rfl) hb (by simpa [kidName, varE, E.name] using hs) hr (by omega)
        · subst g2
          exact back_pre hbt (.inr rfl) hb (by simpa [kidName, varE, E.name] using hs) hr (by omega)
      · rw [textK_post f0 f1 f2 g1 g2] at hs ⊢
        rcases g3 with g3 | g3
        · subst g3
          exact back_post hbt (.inl rfl) hb (by simpa [kidName, varE, E.name] using hs) hr (by omega)
        · subst g3
          exact back_post hbt (.inr rfl) hb (by simpa [kidName, varE, E.name] using hs) hr (by omega)
    · rw [hc] at j3 j4
      obtain ⟨a, b, rfl⟩ := two_kids (show ks.length = 2 by omega)
      obtain ⟨m', rfl, hmk⟩ := hne (by simp)
      have ma : a ∈ (E.mk op em 0 [a, b]).kids := List.mem_cons_self
      have mb : b ∈ (E.mk op em 0 [a, b]).kids := List.mem_cons_of_mem _ (List.mem_singleton.2 rfl)
      obtain ⟨b0, b1, b2, b3, b4, b5, b6, b7, b8⟩ := bin_inv (assigns_bin op (inL_iff.1 c3)).1
      rw [textK_bin b0 b1 b2 b3 b4 b5] at hs ⊢
      exact back_assign (ih a ma) (ih b mb) (inL_iff.1 c3) (j4 rfl) (hkids a ma) (hkids b mb) (hpk a ma) (hpk b mb) (hn.kid ma) (hn.kid mb) (by simpa using hs) hr (hmk a ma) (hmk b mb) (by omega)
    · rw [hc] at j3
      obtain ⟨a, b, rfl⟩ := two_kids (show ks.length = 2 by omega)
      obtain ⟨m', rfl, hmk⟩ := hne (by simp)
      have ma : a ∈ (E.mk op em 0 [a, b]).kids := List.mem_cons_self
      have mb : b ∈ (E.mk op em 0 [a, b]).kids := List.mem_cons_of_mem _ (List.mem_singleton.2 rfl)
      have hbin : binOk op = true := by
        rcases doubles_cases op (inL_iff.1 c4) with h | h | h
        · rw [h]; exact comma_bin.1
        · rw [h]; exact power_bin
        · exact h.1
      have hpw : bash = true ∨ ¬ op = sPw := by
        rcases hp with hp | hp
        · exact .inl hp
        · have := (plainF_inv hp).1
          unfold bashE at this
          rw [Bool.or_eq_false_iff] at this
          exact .inr (of_decide_eq_false this.1)
      obtain ⟨b0, b1, b2, b3, b4, b5, b6, b7, b8⟩ := bin_inv hbin
      rw [textK_bin b0 b1 b2 b3 b4 b5] at hs ⊢
      exact back_double (ih a ma) (ih b mb) (inL_iff.1 c4) (hkids a ma) (hkids b mb) (hpk a ma) (hpk b mb) hpw (hn.kid ma) (hn.kid mb) (by simpa using hs) hr (hmk a ma) (hmk b mb) (by omega)
    · subst c5
      rw [hc] at j3
      obtain ⟨a, b, c, rfl⟩ := three_kids (show ks.length = 3 by omega)
      obtain ⟨m', rfl, hmk⟩ := hne (by simp)
      have ma : a ∈ (E.mk sTern em 0 [a, b, c]).kids := List.mem_cons_self
      have mb : b ∈ (E.mk sTern em 0 [a, b, c]).kids := List.mem_cons_of_mem _ List.mem_cons_self
      have mc : c ∈ (E.mk sTern em 0 [a, b, c]).kids := List.mem_cons_of_mem _ (List.mem_cons_of_mem _ (List.mem_singleton.2 rfl))
      rw [textK_tern] at hs ⊢
      exact back_tern (ih a ma) (ih b mb) (ih c mc) (hkids a ma) (hkids b mb) (hkids c mc) (hpk a ma) (hpk b mb) (hpk c mc) (hn.kid ma) (hn.kid mb) (hn.kid mc) (by simpa using hs) hr (hmk a ma) (hmk b mb) (hmk c mc) (by omega)
    · rw [hc] at j3
      exact absurd j3 (by show ¬ ((ks.length : Int) = -1); omega)
/-- The text of an expression that may be is read as it. -/
theorem back_parse (x : E) (bash : Bool) (ha : allF x = true) (hp : bash = true ∨ plainF x = true) (hn : NumE x) (hd : deepF 1000 x ≤ 25) (hs : (textF x).length ≤ 16384) :
    parseS ⟨(textF x).toArray⟩ bash = (x, (textF x).length, 0) := by
  have hsz : (⟨(textF x).toArray⟩ : ByteArray).size = (textF x).length := by rw [Lib.size_eq]
  obtain ⟨k, hk⟩ := cm_all x bash ⟨(textF x).toArray⟩ 0 0 25 [] ha hp hn ⟨by rw [List.append_nil]; rfl, Nat.zero_le _⟩ (.inl rfl) (dp_of 25 1000 x (by decide) hd) (by decide)
  rw [Nat.zero_add] at hk
  have hend : (nextF ⟨(textF x).toArray⟩ bash (textF x).length).kind = 0 := by
    have := next_end ⟨(textF x).toArray⟩ bash
    rwa [hsz] at this
  have hx := next_nx ⟨(textF x).toArray⟩ bash (by omega)
  have hps := parse_some (lit := litV) hx
  have hk1 : parse (nextF ⟨(textF x).toArray⟩ bash) litV (20 * (textF x).length + 100) .comma 0 (nextF ⟨(textF x).toArray⟩ bash 0) = .ok x (nextF ⟨(textF x).toArray⟩ bash (textF x).length) := by
    rw [hsz] at hps
    rcases Nat.le_total k (20 * (textF x).length + 100) with h | h
    · exact Rd.up hk h
    · have := parse_more h hps
      rw [← this]
      exact hk
  unfold parseS
  rw [if_neg (by omega)]
  have h0 : (nextF ⟨(textF x).toArray⟩ bash 0).kind ≠ 0 := by
    intro hz
    have h1 : parse (nextF ⟨(textF x).toArray⟩ bash) litV 2 .unary 0 (nextF ⟨(textF x).toArray⟩ bash 0) = .fault (nextF ⟨(textF x).toArray⟩ bash 0).pos 33 := by
      rw [up_unary (by decide) (quiet_kind (by omega)), parse, if_neg (by omega), if_neg (by omega)]
      unfold wantF
      rw [quiet_kind (nx := nextF ⟨(textF x).toArray⟩ bash) (l := [sL]) (t := nextF ⟨(textF x).toArray⟩ bash 0) (by omega)]
    have h2 := up_comma (nx := nextF ⟨(textF x).toArray⟩ bash) (lit := litV) (k := 2) (d := 0) (t := nextF ⟨(textF x).toArray⟩ bash 0) (.inr ⟨_, _, h1⟩)
    rw [h1] at h2
    have h3 := parse_more (k' := 20 * (textF x).length + 100) (by omega) (show parse (nextF ⟨(textF x).toArray⟩ bash) litV 17 .comma 0 (nextF ⟨(textF x).toArray⟩ bash 0) ≠ .out from fun e => by rw [h2] at e; cases e)
    rw [h2, hk1] at h3
    cases h3
  unfold parseTop
  rw [if_neg h0, hsz, hk1]
  show (if _ then _ else if _ then _ else _) = _
  rw [if_neg (by omega), if_neg (by omega)]
end Go.Proofs.YtlbgnpllbogkeaaDoor.Ext
end

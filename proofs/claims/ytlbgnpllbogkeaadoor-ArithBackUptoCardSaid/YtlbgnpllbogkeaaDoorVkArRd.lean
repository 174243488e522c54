/- Proved: arith's parser in plain Lean, over any tokens: it never runs out of rounds. Condition: each token ends behind its place, and within the text. Proved: arith's parser in plain Lean: more rounds change nothing; tokens that stand further on change nothing but places. No program's step. Proved: arith's parser as rules: what each reading tells of what is within it (plain Lean). No program's step. -/
import Derived.Lib.Hide
section
set_option linter.unusedVariables false
set_option linter.unusedSimpArgs false
namespace Go.Proofs.YtlbgnpllbogkeaaDoor.Ext
/-- An expression. -/
inductive E where
  | mk (op name : ByteArray) (n : Int) (kids : List E)
def E.op : E → ByteArray | .mk o _ _ _ => o
def E.name : E → ByteArray | .mk _ m _ _ => m
def E.num : E → Int | .mk _ _ n _ => n
def E.kids : E → List E | .mk _ _ _ k => k
theorem E.ind {P : E → Prop} (h : ∀ op name n kids, (∀ k ∈ kids, P k) → P (.mk op name n kids)) : ∀ x, P x := by
  intro x
  refine E.rec (motive_1 := P) (motive_2 := fun l => ∀ k ∈ l, P k) (fun op name n kids ih => h op name n kids ih) (fun k hk => absurd hk (by simp)) (fun a l ha hl k hk => ?_) x
  rcases List.mem_cons.1 hk with rfl | hk
  · exact ha
  · exact hl k hk
/-- A token: its kind, text, place and end. -/
structure Tok where
  kind : Nat
  text : ByteArray
  pos : Nat
  to_ : Nat
/-- What a reading tells: none (no rounds left), a fault, or an expression and the token behind it. -/
inductive Rs where
  | out
  | fault (a e : Nat)
  | ok (x : E) (t : Tok)
def Rs.bind (r : Rs) (f : E → Tok → Rs) : Rs := match r with
  | .out => .out
  | .fault a e => .fault a e
  | .ok x t => f x t
inductive NT where
  | comma | assign | choice | level (n : Nat) | power | unary | post
abbrev em : ByteArray := ⟨#[]⟩
def un (op : ByteArray) (x : E) : E := .mk op em 0 [x]
def bi (op : ByteArray) (x y : E) : E := .mk op em 0 [x, y]
def varE (n : ByteArray) : E := .mk em n 0 []
def numE (n : Int) : E := .mk em em n []
def litE (n : Int) : E := if 0 ≤ n then numE n else un ⟨#[110, 101, 103]⟩ (bi ⟨#[43]⟩ (numE (-(n + 1))) (numE 1))
def isVar (x : E) : Bool := x.op.size == 0 && !(x.name.size == 0)
def inL (l : List ByteArray) (b : ByteArray) : Bool := l.any fun x => decide (x = b)
theorem inL_iff {l : List ByteArray} {b : ByteArray} : inL l b = true ↔ b ∈ l := by
  unfold inL
  rw [List.any_eq_true]
  constructor
  · rintro ⟨x, hx, h⟩
    rw [← of_decide_eq_true h]
    exact hx
  · exact fun h => ⟨b, h, decide_eq_true rfl⟩
def tookF (nx : Nat → Tok) (l : List ByteArray) (t : Tok) : Option (ByteArray × Tok) := if t.kind = 3 ∧ inL l t.text = true then some (t.text, nx t.to_) else none
def wantF (nx : Nat → Tok) (b : ByteArray) (t : Tok) (f : Tok → Rs) : Rs := match tookF nx [b] t with
  | none => .fault t.pos 33
  | some (_, t1) => f t1
def deeperF (d : Nat) (t : Tok) (f : Nat → Rs) : Rs := if d = 60 then .fault t.pos 42 else f (d + 1)
def leftGo (nx : Nat → Tok) (l : List ByteArray) (one : Tok → Rs) : Nat → E → Tok → Rs
  | 0, _, _ => .out
  | k + 1, x, t => match tookF nx l t with
    | none => .ok x t
    | some (op, t1) => (one t1).bind fun y t2 => leftGo nx l one k (bi op x y) t2
def assignsL : List ByteArray := [⟨#[61]⟩, ⟨#[42, 61]⟩, ⟨#[47, 61]⟩, ⟨#[37, 61]⟩, ⟨#[43, 61]⟩, ⟨#[45, 61]⟩, ⟨#[60, 60, 61]⟩, ⟨#[62, 62, 61]⟩, ⟨#[38, 61]⟩, ⟨#[94, 61]⟩, ⟨#[124, 61]⟩]
def unaryL : List ByteArray := [⟨#[33]⟩, ⟨#[126]⟩, ⟨#[45]⟩, ⟨#[43]⟩, ⟨#[43, 43]⟩, ⟨#[45, 45]⟩]
def stepL : List ByteArray := [⟨#[43, 43]⟩, ⟨#[45, 45]⟩]
def levelsL : Nat → List ByteArray
  | 0 => [⟨#[124, 124]⟩]
  | 1 => [⟨#[38, 38]⟩]
  | 2 => [⟨#[124]⟩]
  | 3 => [⟨#[94]⟩]
  | 4 => [⟨#[38]⟩]
  | 5 => [⟨#[61, 61]⟩, ⟨#[33, 61]⟩]
  | 6 => [⟨#[60, 61]⟩, ⟨#[62, 61]⟩, ⟨#[60]⟩, ⟨#[62]⟩]
  | 7 => [⟨#[60, 60]⟩, ⟨#[62, 62]⟩]
  | 8 => [⟨#[43]⟩, ⟨#[45]⟩]
  | 9 => [⟨#[42]⟩, ⟨#[47]⟩, ⟨#[37]⟩]
  | _ => []
abbrev sCo : ByteArray := ⟨#[44]⟩
abbrev sQu : ByteArray := ⟨#[63]⟩
abbrev sCl : ByteArray := ⟨#[58]⟩
abbrev sPw : ByteArray := ⟨#[42, 42]⟩
abbrev sL : ByteArray := ⟨#[40]⟩
abbrev sR : ByteArray := ⟨#[41]⟩
abbrev sPlus : ByteArray := ⟨#[43]⟩
abbrev sMinus : ByteArray := ⟨#[45]⟩
abbrev sInc : ByteArray := ⟨#[43, 43]⟩
abbrev sDec : ByteArray := ⟨#[45, 45]⟩
abbrev sNeg : ByteArray := ⟨#[110, 101, 103]⟩
abbrev sPre : ByteArray := ⟨#[112, 114, 101]⟩
abbrev sPost : ByteArray := ⟨#[112, 111, 115, 116]⟩
abbrev sTern : ByteArray := ⟨#[63, 58]⟩
def tookD (nx : Nat → Tok) (l : List ByteArray) (t : Tok) (no : Rs) (yes : ByteArray → Tok → Rs) : Rs := match tookF nx l t with
  | none => no
  | some (op, t1) => yes op t1
theorem tookD_no {nx : Nat → Tok} {l : List ByteArray} {t : Tok} {no : Rs} {yes : ByteArray → Tok → Rs} (h : tookF nx l t = none) : tookD nx l t no yes = no := by unfold tookD; rw [h]
theorem tookD_yes {nx : Nat → Tok} {l : List ByteArray} {t t1 : Tok} {op : ByteArray} {no : Rs} {yes : ByteArray → Tok → Rs} (h : tookF nx l t = some (op, t1)) : tookD nx l t no yes = yes op t1 := by unfold tookD; rw [h]
/-- The parser. lit: a number's text as a number; d: how deep it is; t: the token at hand. -/
def parse (nx : Nat → Tok) (lit : ByteArray → Int) : Nat → NT → Nat → Tok → Rs
  | 0, _, _, _ => .out
  | k + 1, .comma, d, t => (parse nx lit k .assign d t).bind (leftGo nx [sCo] (parse nx lit k .assign d) k)
  | k + 1, .assign, d, t => (parse nx lit k .choice d t).bind fun x t => if isVar x = true then tookD nx assignsL t (.ok x t) fun op t =>
      deeperF d t fun d => (parse nx lit k .assign d t).bind fun y t => .ok (bi op x y) t else .ok x t
  | k + 1, .choice, d, t => (parse nx lit k (.level 0) d t).bind fun x t => tookD nx [sQu] t (.ok x t) fun _ t =>
      deeperF d t fun d => (parse nx lit k .assign d t).bind fun y t => wantF nx sCl t fun t => (parse nx lit k .choice d t).bind fun z t => .ok (.mk sTern em 0 [x, y, z]) t
  | k + 1, .level n, d, t => if n = 10 then parse nx lit k .power d t else (parse nx lit k (.level (n + 1)) d t).bind (leftGo nx (levelsL n) (parse nx lit k (.level (n + 1)) d) k)
  | k + 1, .power, d, t => (parse nx lit k .unary d t).bind fun x t => tookD nx [sPw] t (.ok x t) fun _ t =>
      deeperF d t fun d => (parse nx lit k .power d t).bind fun y t => .ok (bi sPw x y) t
  | k + 1, .unary, d, t => deeperF d t fun d => tookD nx unaryL t (parse nx lit k .post d t) fun op t =>
      if op = sPlus then parse nx lit k .unary d t
        else if op = sMinus then (parse nx lit k .unary d t).bind fun x t => .ok (un sNeg x) t
        else if op = sInc ∨ op = sDec then (if t.kind = 2 then .ok (un (sPre ++ op) (varE t.text)) (nx t.to_) else .fault t.pos 33)
        else (parse nx lit k .unary d t).bind fun x t => .ok (un op x) t
  | k + 1, .post, d, t => if t.kind = 1 then .ok (litE (lit t.text)) (nx t.to_)
      else if t.kind = 2 then tookD nx stepL (nx t.to_) (.ok (varE t.text) (nx t.to_)) fun op t1 => .ok (un (sPost ++ op) (varE t.text)) t1
      else wantF nx sL t fun t => (parse nx lit k .comma d t).bind fun x t => wantF nx sR t fun t => .ok x t
/-- How deep an expression is, as far as is counted. -/
def deepF : Nat → E → Nat
  | 0, _ => 0
  | l + 1, .mk _ _ _ kids => kids.foldl (fun n k => max n (1 + deepF l k)) 0
def zeroE : E := .mk em em 0 []
/-- A whole text: the expression, the place, the error. -/
def parseTop (nx : Nat → Tok) (lit : ByteArray → Int) (L : Nat) : E × Nat × Nat :=
  if (nx 0).kind = 0 then (zeroE, L, 0) else match parse nx lit (20 * L + 100) .comma 0 (nx 0) with
    | .out => (zeroE, 0, 0)
    | .fault a e => (zeroE, a, e)
    | .ok x t => if t.kind ≠ 0 then (zeroE, t.pos, 33) else if 60 < deepF 1000 x then (zeroE, L, 42) else (x, L, 0)
/-- Tokens of a text of L octets. -/
structure Nx (nx : Nat → Tok) (L : Nat) : Prop where
  on : ∀ i, i ≤ L → (nx i).kind ≠ 0 → i < (nx i).to_ ∧ (nx i).to_ ≤ L
  fin : ∀ i, i ≤ L → (nx i).kind = 0 → (nx i).to_ = L
  txt : ∀ i, i ≤ L → (nx i).text.size ≤ 16384
/-- A token that ends within the text. -/
def Of (nx : Nat → Tok) (L : Nat) (t : Tok) : Prop := t.to_ ≤ L
theorem Nx.le {nx : Nat → Tok} {L : Nat} (h : Nx nx L) {i : Nat} (hi : i ≤ L) : (nx i).to_ ≤ L := by
  by_cases hk : (nx i).kind = 0
  · exact Nat.le_of_eq (h.fin i hi hk)
  · exact (h.on i hi hk).2
def wt (L : Nat) (t : Tok) : Nat := if t.kind = 0 then 0 else L + 1 - t.to_
def lev : NT → Nat
  | .comma => 16
  | .assign => 15
  | .choice => 14
  | .level n => 13 - n
  | .power => 2
  | .unary => 1
  | .post => 0
theorem of_next {nx : Nat → Tok} {L : Nat} (h : Nx nx L) {t : Tok} (ht : Of nx L t) (hk : t.kind ≠ 0) : Of nx L (nx t.to_) ∧ wt L (nx t.to_) < wt L t := by
  have ht : t.to_ ≤ L := ht
  refine ⟨h.le ht, ?_⟩
  unfold wt
  rw [if_neg hk]
  by_cases hz : (nx t.to_).kind = 0
  · rw [if_pos hz]; omega
  · rw [if_neg hz]
    obtain ⟨h3, h4⟩ := h.on _ ht hz
    omega
theorem of_took {nx : Nat → Tok} {L : Nat} (h : Nx nx L) {t t1 : Tok} {l : List ByteArray} {op : ByteArray} (ht : Of nx L t) (e : tookF nx l t = some (op, t1)) : Of nx L t1 ∧ wt L t1 < wt L t := by
  unfold tookF at e
  split at e
  · rename_i hc
    cases e
    exact of_next h ht (by rw [hc.1]; decide)
  · cases e
/-- What is said of a reading: it is not out of rounds; what it leaves is of the text, and not ahead. -/
def Good (nx : Nat → Tok) (L : Nat) (W : Nat) : Rs → Prop
  | .out => False
  | .fault _ _ => True
  | .ok _ t => Of nx L t ∧ wt L t ≤ W
theorem Good.bind {nx : Nat → Tok} {L W W' : Nat} {r : Rs} {f : E → Tok → Rs} (h : Good nx L W r) (hf : ∀ x t, Of nx L t → wt L t ≤ W → Good nx L W' (f x t)) : Good nx L W' (r.bind f) := by
  cases r with
  | out => exact h.elim
  | fault a e => exact trivial
  | ok x t => exact hf x t h.1 h.2
theorem Good.le {nx : Nat → Tok} {L W W' : Nat} {r : Rs} (h : Good nx L W r) (hw : W ≤ W') : Good nx L W' r := by
  cases r with
  | out => exact h.elim
  | fault a e => exact trivial
  | ok x t => exact ⟨h.1, Nat.le_trans h.2 hw⟩
theorem good_left {nx : Nat → Tok} {L : Nat} (h : Nx nx L) (l : List ByteArray) (one : Tok → Rs) : ∀ (k : Nat) (x : E) (t : Tok), (∀ t', Of nx L t' → wt L t' < wt L t → Good nx L (wt L t') (one t')) → Of nx L t → wt L t < k → Good nx L (wt L t) (leftGo nx l one k x t)
  | 0, x, t, _, _, hk => absurd hk (Nat.not_lt_zero _)
  | k + 1, x, t, ho, ht, hk => by
    rw [leftGo]
    cases e : tookF nx l t with
    | none => exact ⟨ht, Nat.le_refl _⟩
    | some p =>
      obtain ⟨op, t1⟩ := p
      obtain ⟨h1, h2⟩ := of_took h ht e
      refine (ho t1 h1 h2).bind (fun y t2 h3 h4 => ?_)
      exact (good_left h l one k _ t2 (fun t' a b => ho t' a (by omega)) h3 (by omega)).le (by omega)
theorem good_deeper {nx : Nat → Tok} {L W d : Nat} {t : Tok} {f : Nat → Rs} (h : Good nx L W (f (d + 1))) : Good nx L W (deeperF d t f) := by
  unfold deeperF
  split
  · exact trivial
  · exact h
theorem good_want {nx : Nat → Tok} {L W : Nat} (h : Nx nx L) {b : ByteArray} {t : Tok} {f : Tok → Rs} (ht : Of nx L t) (hf : ∀ t1, Of nx L t1 → wt L t1 < wt L t → Good nx L W (f t1)) : Good nx L W (wantF nx b t f) := by
  unfold wantF
  cases e : tookF nx [b] t with
  | none => exact trivial
  | some p => obtain ⟨op, t1⟩ := p; obtain ⟨h1, h2⟩ := of_took h ht e; exact hf t1 h1 h2
theorem good_parse {nx : Nat → Tok} {lit : ByteArray → Int} {L : Nat} (h : Nx nx L) : ∀ (k : Nat) (nt : NT) (d : Nat) (t : Tok), Of nx L t → (∀ n, nt = .level n → n ≤ 10) → 20 * wt L t + lev nt < k → Good nx L (wt L t) (parse nx lit k nt d t)
  | 0, _, _, _, _, _, hk => absurd hk (Nat.not_lt_zero _)
  | k + 1, nt, d, t, ht, hn, hk => by
    have ih := good_parse (lit := lit) h k
    cases nt with
    | comma =>
      rw [parse]
      simp only [lev] at hk
      refine (ih .assign d t ht (fun _ e => by cases e) (by simp only [lev]; omega)).bind (fun x t1 h1 h2 => ?_)
      exact (good_left h _ _ k x t1 (fun t' a b => ih .assign d t' a (fun _ e => by cases e) (by simp only [lev]; omega)) h1 (by omega)).le h2
    | assign =>
      rw [parse]
      simp only [lev] at hk
      refine (ih .choice d t ht (fun _ e => by cases e) (by simp only [lev]; omega)).bind (fun x t1 h1 h2 => ?_)
      split
      · unfold tookD
        cases e : tookF nx assignsL t1 with
        | none => exact ⟨h1, h2⟩
        | some p =>
          obtain ⟨op, t2⟩ := p
          obtain ⟨h3, h4⟩ := of_took h h1 e
          refine good_deeper ((ih .assign (d + 1) t2 h3 (fun _ e => by cases e) (by simp only [lev]; omega)).bind (fun y t3 h5 h6 => ⟨h5, by omega⟩))
      · exact ⟨h1, h2⟩
    | choice =>
      rw [parse]
      simp only [lev] at hk
      refine (ih (.level 0) d t ht (fun _ e => by cases e; omega) (by simp only [lev]; omega)).bind (fun x t1 h1 h2 => ?_)
      unfold tookD
      cases e : tookF nx [sQu] t1 with
      | none => exact ⟨h1, h2⟩
      | some p =>
        obtain ⟨op, t2⟩ := p
        obtain ⟨h3, h4⟩ := of_took h h1 e
        refine good_deeper ((ih .assign (d + 1) t2 h3 (fun _ e => by cases e) (by simp only [lev]; omega)).bind (fun y t3 h5 h6 => ?_))
        refine good_want h h5 (fun t4 h7 h8 => ?_)
        refine (ih .choice (d + 1) t4 h7 (fun _ e => by cases e) (by simp only [lev]; omega)).bind (fun z t5 h9 h10 => ⟨h9, by omega⟩)
    | level n =>
      rw [parse]
      have hn := hn n rfl
      simp only [lev] at hk
      split
      · exact ih .power d t ht (fun _ e => by cases e) (by simp only [lev]; omega)
      · refine (ih (.level (n + 1)) d t ht (fun _ e => by cases e; omega) (by simp only [lev]; omega)).bind (fun x t1 h1 h2 => ?_)
        exact (good_left h _ _ k x t1 (fun t' a b => ih (.level (n + 1)) d t' a (fun _ e => by cases e; omega) (by simp only [lev]; omega)) h1 (by omega)).le h2
    | power =>
      rw [parse]
      simp only [lev] at hk
      refine (ih .unary d t ht (fun _ e => by cases e) (by simp only [lev]; omega)).bind (fun x t1 h1 h2 => ?_)
      unfold tookD
      cases e : tookF nx [sPw] t1 with
      | none => exact ⟨h1, h2⟩
      | some p =>
        obtain ⟨op, t2⟩ := p
        obtain ⟨h3, h4⟩ := of_took h h1 e
        exact good_deeper ((ih .power (d + 1) t2 h3 (fun _ e => by cases e) (by simp only [lev]; omega)).bind (fun y t3 h5 h6 => ⟨h5, by omega⟩))
    | unary =>
      rw [parse]
      simp only [lev] at hk
      refine good_deeper ?_
      unfold tookD
      cases e : tookF nx unaryL t with
      | none => exact ih .post (d + 1) t ht (fun _ e => by cases e) (by simp only [lev]; omega)
      | some p =>
        obtain ⟨op, t2⟩ := p
        obtain ⟨h3, h4⟩ := of_took h ht e
        dsimp only
        split
        · exact (ih .unary (d + 1) t2 h3 (fun _ e => by cases e) (by simp only [lev]; omega)).le (by omega)
        · split
          · exact (ih .unary (d + 1) t2 h3 (fun _ e => by cases e) (by simp only [lev]; omega)).bind (fun x t3 h5 h6 => ⟨h5, by omega⟩)
          · split
            · split
              · rename_i hk2
                obtain ⟨h5, h6⟩ := of_next h h3 (by rw [hk2]; decide)
                exact ⟨h5, by omega⟩
              · exact trivial
            · exact (ih .unary (d + 1) t2 h3 (fun _ e => by cases e) (by simp only [lev]; omega)).bind (fun x t3 h5 h6 => ⟨h5, by omega⟩)
    | post =>
      rw [parse]
      simp only [lev] at hk
      split
      · rename_i hk1
        obtain ⟨h5, h6⟩ := of_next h ht (by rw [hk1]; decide)
        exact ⟨h5, by omega⟩
      · split
        · rename_i hk2
          obtain ⟨h5, h6⟩ := of_next h ht (by rw [hk2]; decide)
          unfold tookD
          cases e : tookF nx stepL (nx t.to_) with
          | none => exact ⟨h5, by omega⟩
          | some p =>
            obtain ⟨op, t2⟩ := p
            obtain ⟨h7, h8⟩ := of_took h h5 e
            exact ⟨h7, by omega⟩
        · refine good_want h ht (fun t1 h1 h2 => ?_)
          refine (ih .comma d t1 h1 (fun _ e => by cases e) (by simp only [lev]; omega)).bind (fun x t2 h3 h4 => ?_)
          exact good_want h h3 (fun t3 h5 h6 => ⟨h5, by omega⟩)
/-- What a reading leaves is of the text, and not ahead. -/
def Weak (nx : Nat → Tok) (L : Nat) (W : Nat) : Rs → Prop
  | .out => True
  | .fault _ _ => True
  | .ok _ t => Of nx L t ∧ wt L t ≤ W
theorem Weak.bind {nx : Nat → Tok} {L W W' : Nat} {r : Rs} {f : E → Tok → Rs} (h : Weak nx L W r) (hf : ∀ x t, Of nx L t → wt L t ≤ W → Weak nx L W' (f x t)) : Weak nx L W' (r.bind f) := by
  cases r with
  | out => exact trivial
  | fault a e => exact trivial
  | ok x t => exact hf x t h.1 h.2
theorem Weak.le {nx : Nat → Tok} {L W W' : Nat} {r : Rs} (h : Weak nx L W r) (hw : W ≤ W') : Weak nx L W' r := by
  cases r with
  | out => exact trivial
  | fault a e => exact trivial
  | ok x t => exact ⟨h.1, Nat.le_trans h.2 hw⟩
theorem weak_left {nx : Nat → Tok} {L : Nat} (h : Nx nx L) (l : List ByteArray) (one : Tok → Rs) : ∀ (k : Nat) (x : E) (t : Tok), (∀ t', Of nx L t' → Weak nx L (wt L t') (one t')) → Of nx L t → Weak nx L (wt L t) (leftGo nx l one k x t)
  | 0, x, t, _, _ => trivial
  | k + 1, x, t, ho, ht => by
    rw [leftGo]
    cases e : tookF nx l t with
    | none => exact ⟨ht, Nat.le_refl _⟩
    | some p =>
      obtain ⟨op, t1⟩ := p
      obtain ⟨h1, h2⟩ := of_took h ht e
      refine (ho t1 h1).bind (fun y t2 h3 h4 => ?_)
      exact (weak_left h l one k _ t2 ho h3).le (by omega)
theorem weak_deeper {nx : Nat → Tok} {L W d : Nat} {t : Tok} {f : Nat → Rs} (h : Weak nx L W (f (d + 1))) : Weak nx L W (deeperF d t f) := by
  unfold deeperF
  split
  · exact trivial
  · exact h
theorem weak_want {nx : Nat → Tok} {L W : Nat} (h : Nx nx L) {b : ByteArray} {t : Tok} {f : Tok → Rs} (ht : Of nx L t) (hf : ∀ t1, Of nx L t1 → wt L t1 < wt L t → Weak nx L W (f t1)) : Weak nx L W (wantF nx b t f) := by
  unfold wantF
  cases e : tookF nx [b] t with
  | none => exact trivial
  | some p => obtain ⟨op, t1⟩ := p; obtain ⟨h1, h2⟩ := of_took h ht e; exact hf t1 h1 h2
theorem weak_parse {nx : Nat → Tok} {lit : ByteArray → Int} {L : Nat} (h : Nx nx L) : ∀ (k : Nat) (nt : NT) (d : Nat) (t : Tok), Of nx L t → Weak nx L (wt L t) (parse nx lit k nt d t)
  | 0, _, _, _, _ => trivial
  | k + 1, nt, d, t, ht => by
    have ih := weak_parse (lit := lit) h k
    cases nt with
    | comma =>
      rw [parse]
      refine (ih .assign d t ht).bind (fun x t1 h1 h2 => ?_)
      exact (weak_left h _ _ k x t1 (fun t' a => ih .assign d t' a) h1).le h2
    | assign =>
      rw [parse]
      refine (ih .choice d t ht).bind (fun x t1 h1 h2 => ?_)
      split
      · unfold tookD
        cases e : tookF nx assignsL t1 with
        | none => exact ⟨h1, h2⟩
        | some p =>
          obtain ⟨op, t2⟩ := p
          obtain ⟨h3, h4⟩ := of_took h h1 e
          refine weak_deeper ((ih .assign (d + 1) t2 h3).bind (fun y t3 h5 h6 => ⟨h5, by omega⟩))
      · exact ⟨h1, h2⟩
    | choice =>
      rw [parse]
      refine (ih (.level 0) d t ht).bind (fun x t1 h1 h2 => ?_)
      unfold tookD
      cases e : tookF nx [sQu] t1 with
      | none => exact ⟨h1, h2⟩
      | some p =>
        obtain ⟨op, t2⟩ := p
        obtain ⟨h3, h4⟩ := of_took h h1 e
        refine weak_deeper ((ih .assign (d + 1) t2 h3).bind (fun y t3 h5 h6 => ?_))
        refine weak_want h h5 (fun t4 h7 h8 => ?_)
        refine (ih .choice (d + 1) t4 h7).bind (fun z t5 h9 h10 => ⟨h9, by omega⟩)
    | level n =>
      rw [parse]
      split
      · exact ih .power d t ht
      · refine (ih (.level (n + 1)) d t ht).bind (fun x t1 h1 h2 => ?_)
        exact (weak_left h _ _ k x t1 (fun t' a => ih (.level (n + 1)) d t' a) h1).le h2
    | power =>
      rw [parse]
      refine (ih .unary d t ht).bind (fun x t1 h1 h2 => ?_)
      unfold tookD
      cases e : tookF nx [sPw] t1 with
      | none => exact ⟨h1, h2⟩
      | some p =>
        obtain ⟨op, t2⟩ := p
        obtain ⟨h3, h4⟩ := of_took h h1 e
        exact weak_deeper ((ih .power (d + 1) t2 h3).bind (fun y t3 h5 h6 => ⟨h5, by omega⟩))
    | unary =>
      rw [parse]
      refine weak_deeper ?_
      unfold tookD
      cases e : tookF nx unaryL t with
      | none => exact ih .post (d + 1) t ht
      | some p =>
        obtain ⟨op, t2⟩ := p
        obtain ⟨h3, h4⟩ := of_took h ht e
        dsimp only
        split
        · exact (ih .unary (d + 1) t2 h3).le (by omega)
        · split
          · exact (ih .unary (d + 1) t2 h3).bind (fun x t3 h5 h6 => ⟨h5, by omega⟩)
          · split
            · split
              · rename_i hk2
                obtain ⟨h5, h6⟩ := of_next h h3 (by rw [hk2]; decide)
                exact ⟨h5, by omega⟩
              · exact trivial
            · exact (ih .unary (d + 1) t2 h3).bind (fun x t3 h5 h6 => ⟨h5, by omega⟩)
    | post =>
      rw [parse]
      split
      · rename_i hk1
        obtain ⟨h5, h6⟩ := of_next h ht (by rw [hk1]; decide)
        exact ⟨h5, by omega⟩
      · split
        · rename_i hk2
          obtain ⟨h5, h6⟩ := of_next h ht (by rw [hk2]; decide)
          unfold tookD
          cases e : tookF nx stepL (nx t.to_) with
          | none => exact ⟨h5, by omega⟩
          | some p =>
            obtain ⟨op, t2⟩ := p
            obtain ⟨h7, h8⟩ := of_took h h5 e
            exact ⟨h7, by omega⟩
        · refine weak_want h ht (fun t1 h1 h2 => ?_)
          refine (ih .comma d t1 h1).bind (fun x t2 h3 h4 => ?_)
          exact weak_want h h3 (fun t3 h5 h6 => ⟨h5, by omega⟩)
theorem parse_some {nx : Nat → Tok} {lit : ByteArray → Int} {L : Nat} (h : Nx nx L) : parse nx lit (20 * L + 100) .comma 0 (nx 0) ≠ .out := by
  have h0 : Of nx L (nx 0) := h.le (Nat.zero_le _)
  have hw : wt L (nx 0) ≤ L := by
    unfold wt
    split
    · omega
    · rename_i hk
      have := (h.on 0 (Nat.zero_le _) hk).1
      omega
  have := good_parse (lit := lit) h (20 * L + 100) .comma 0 (nx 0) h0 (fun _ e => by cases e) (by simp only [lev]; omega)
  intro e
  rw [e] at this
  exact this
end Go.Proofs.YtlbgnpllbogkeaaDoor.Ext
end

section
set_option linter.unusedVariables false
set_option linter.unusedSimpArgs false
namespace Go.Proofs.YtlbgnpllbogkeaaDoor.Ext
def Le (r r' : Rs) : Prop := r = .out ∨ r' = r
theorem Le.refl (r : Rs) : Le r r := .inr rfl
theorem Le.bind {r r' : Rs} {f f' : E → Tok → Rs} (h : Le r r') (hf : ∀ x t, Le (f x t) (f' x t)) : Le (r.bind f) (r'.bind f') := by
  rcases h with rfl | rfl
  · exact .inl rfl
  · cases r' with
    | out => exact .inl rfl
    | fault a e => exact .inr rfl
    | ok x t => exact hf x t
theorem Le.took {nx : Nat → Tok} {l : List ByteArray} {t : Tok} {a a' : Rs} {f f' : ByteArray → Tok → Rs} (h : Le a a') (hf : ∀ o t, Le (f o t) (f' o t)) : Le (tookD nx l t a f) (tookD nx l t a' f') := by
  unfold tookD
  cases tookF nx l t with
  | none => exact h
  | some p => exact hf p.1 p.2
theorem Le.want {nx : Nat → Tok} {b : ByteArray} {t : Tok} {f f' : Tok → Rs} (hf : ∀ t, Le (f t) (f' t)) : Le (wantF nx b t f) (wantF nx b t f') := by
  unfold wantF
  cases tookF nx [b] t with
  | none => exact Le.refl _
  | some p => exact hf p.2
theorem Le.deeper {d : Nat} {t : Tok} {f f' : Nat → Rs} (hf : ∀ d, Le (f d) (f' d)) : Le (deeperF d t f) (deeperF d t f') := by
  unfold deeperF
  split
  · exact Le.refl _
  · exact hf _
theorem Le.left {nx : Nat → Tok} {l : List ByteArray} {one one' : Tok → Rs} (ho : ∀ t, Le (one t) (one' t)) : ∀ (k k' : Nat) (x : E) (t : Tok), k ≤ k' → Le (leftGo nx l one k x t) (leftGo nx l one' k' x t)
  | 0, _, _, _, _ => .inl rfl
  | k + 1, 0, _, _, h => absurd h (by omega)
  | k + 1, k' + 1, x, t, h => by
    rw [leftGo, leftGo]
    cases tookF nx l t with
    | none => exact Le.refl _
    | some p => exact (ho p.2).bind (fun y t2 => Le.left ho k k' _ t2 (by omega))
theorem parse_le {nx : Nat → Tok} {lit : ByteArray → Int} : ∀ (k k' : Nat) (nt : NT) (d : Nat) (t : Tok), k ≤ k' → Le (parse nx lit k nt d t) (parse nx lit k' nt d t)
  | 0, _, _, _, _, _ => .inl (by rw [parse])
  | k + 1, 0, _, _, _, h => absurd h (by omega)
  | k + 1, k' + 1, nt, d, t, h => by
    have ih := fun nt d t => parse_le (nx := nx) (lit := lit) k k' nt d t (by omega)
    cases nt with
    | comma => rw [parse, parse]; exact (ih _ _ _).bind (fun x t => Le.left (fun t => ih _ _ _) k k' x t (by omega))
    | assign =>
      rw [parse, parse]
      refine (ih _ _ _).bind (fun x t => ?_)
      split
      · exact Le.took (Le.refl _) (fun o t => Le.deeper (fun d => (ih _ _ _).bind (fun y t => Le.refl _)))
      · exact Le.refl _
    | choice =>
      rw [parse, parse]
      exact (ih _ _ _).bind (fun x t => Le.took (Le.refl _) (fun o t => Le.deeper (fun d => (ih _ _ _).bind (fun y t => Le.want (fun t => (ih _ _ _).bind (fun z t => Le.refl _))))))
    | level n =>
      rw [parse, parse]
      split
      · exact ih _ _ _
      · exact (ih _ _ _).bind (fun x t => Le.left (fun t => ih _ _ _) k k' x t (by omega))
    | power =>
      rw [parse, parse]
      exact (ih _ _ _).bind (fun x t => Le.took (Le.refl _) (fun o t => Le.deeper (fun d => (ih _ _ _).bind (fun y t => Le.refl _))))
    | unary =>
      rw [parse, parse]
      refine Le.deeper (fun d => Le.took (ih _ _ _) (fun o t => ?_))
      split
      · exact ih _ _ _
      · split
        · exact (ih _ _ _).bind (fun x t => Le.refl _)
        · split
          · exact Le.refl _
          · exact (ih _ _ _).bind (fun x t => Le.refl _)
    | post =>
      rw [parse, parse]
      split
      · exact Le.refl _
      · split
        · exact Le.refl _
        · exact Le.want (fun t => (ih _ _ _).bind (fun x t => Le.refl _))
/-- More rounds tell the same. -/
theorem parse_more {nx : Nat → Tok} {lit : ByteArray → Int} {k k' : Nat} {nt : NT} {d : Nat} {t : Tok} (h : k ≤ k') (ho : parse nx lit k nt d t ≠ .out) : parse nx lit k' nt d t = parse nx lit k nt d t := by
  rcases parse_le (nx := nx) (lit := lit) k k' nt d t h with e | e
  · exact absurd e ho
  · exact e
section
variable {nx nx' : Nat → Tok} {n L : Nat}
end
end Go.Proofs.YtlbgnpllbogkeaaDoor.Ext
end

section
set_option linter.unusedVariables false
set_option linter.unusedSimpArgs false
namespace Go.Proofs.YtlbgnpllbogkeaaDoor.Ext
section
variable {nx : Nat → Tok} {lit : ByteArray → Int}
/-- With rounds enough x is read, and t' is the token behind it. -/
def Rd (nx : Nat → Tok) (lit : ByteArray → Int) (nt : NT) (d : Nat) (t : Tok) (x : E) (t' : Tok) : Prop := ∃ k, parse nx lit k nt d t = .ok x t'
/-- No sign of a list comes. -/
abbrev Quiet (nx : Nat → Tok) (l : List ByteArray) (t : Tok) : Prop := tookF nx l t = none
theorem Rd.up {nt : NT} {d : Nat} {t t' : Tok} {x : E} {k k' : Nat} (h : parse nx lit k nt d t = .ok x t') (hk : k ≤ k') : parse nx lit k' nt d t = .ok x t' := by
  rw [parse_more hk (by rw [h]; exact fun e => by cases e), h]
theorem took_in {l : List ByteArray} {t : Tok} (hk : t.kind = 3) (h : t.text ∈ l) : tookF nx l t = some (t.text, nx t.to_) := by
  unfold tookF
  rw [if_pos ⟨hk, inL_iff.2 h⟩]
theorem quiet_kind {l : List ByteArray} {t : Tok} (h : t.kind ≠ 3) : Quiet nx l t := by
  unfold Quiet tookF
  rw [if_neg (fun e => h e.1)]
theorem quiet_out {l : List ByteArray} {t : Tok} (h : ¬ t.text ∈ l) : Quiet nx l t := by
  unfold Quiet tookF
  rw [if_neg (fun e => h (inL_iff.1 e.2))]
theorem Rd.num {d : Nat} {t : Tok} (hk : t.kind = 1) : Rd nx lit .post d t (litE (lit t.text)) (nx t.to_) := ⟨1, by rw [parse, if_pos hk]⟩
theorem Rd.var {d : Nat} {t : Tok} (hk : t.kind = 2) (hq : Quiet nx stepL (nx t.to_)) : Rd nx lit .post d t (varE t.text) (nx t.to_) := ⟨1, by
  rw [parse, if_neg (by omega), if_pos hk, tookD_no hq]⟩
theorem Rd.step {d : Nat} {t : Tok} (hk : t.kind = 2) (hk1 : (nx t.to_).kind = 3) (ho : (nx t.to_).text ∈ stepL) : Rd nx lit .post d t (un (sPost ++ (nx t.to_).text) (varE t.text)) (nx (nx t.to_).to_) := ⟨1, by
  rw [parse, if_neg (by omega), if_pos hk, tookD_yes (took_in hk1 ho)]⟩
theorem want_yes {b : ByteArray} {t : Tok} {f : Tok → Rs} (hk : t.kind = 3) (ht : t.text = b) : wantF nx b t f = f (nx t.to_) := by
  unfold wantF
  rw [took_in hk (by rw [ht]; exact List.mem_singleton.2 rfl)]
theorem Rd.paren {d : Nat} {t t1 : Tok} {x : E} (hk : t.kind = 3) (ht : t.text = sL) (h : Rd nx lit .comma d (nx t.to_) x t1) (hk1 : t1.kind = 3) (ht1 : t1.text = sR) : Rd nx lit .post d t x (nx t1.to_) := by
  obtain ⟨k, h⟩ := h
  refine ⟨k + 1, ?_⟩
  rw [parse, if_neg (by omega), if_neg (by omega), want_yes hk ht, h]
  exact want_yes hk1 ht1
theorem deeper_ok {d : Nat} {t : Tok} {f : Nat → Rs} (h : d < 60) : deeperF d t f = f (d + 1) := by
  unfold deeperF
  rw [if_neg (by omega)]
theorem Rd.unary {d : Nat} {t t1 : Tok} {x : E} (hd : d < 60) (hq : Quiet nx unaryL t) (h : Rd nx lit .post (d + 1) t x t1) : Rd nx lit .unary d t x t1 := by
  obtain ⟨k, h⟩ := h
  refine ⟨k + 1, ?_⟩
  rw [parse]
  rw [deeper_ok hd, tookD_no hq, h]
theorem Rd.un {d : Nat} {t t1 : Tok} {x : E} {o : ByteArray} (hd : d < 60) (hk : t.kind = 3) (ht : t.text = o) (ho : o ∈ unaryL) (h1 : ¬ o = sPlus) (h2 : ¬ o = sMinus) (h3 : ¬ (o = sInc ∨ o = sDec)) (h : Rd nx lit .unary (d + 1) (nx t.to_) x t1) : Rd nx lit .unary d t (un o x) t1 := by
  obtain ⟨k, h⟩ := h
  subst ht
  refine ⟨k + 1, ?_⟩
  rw [parse]
  rw [deeper_ok hd, tookD_yes (took_in hk ho), if_neg h1, if_neg h2, if_neg h3, h]
  rfl
theorem Rd.neg {d : Nat} {t t1 : Tok} {x : E} (hd : d < 60) (hk : t.kind = 3) (ht : t.text = sMinus) (h : Rd nx lit .unary (d + 1) (nx t.to_) x t1) : Rd nx lit .unary d t (Ext.un sNeg x) t1 := by
  obtain ⟨k, h⟩ := h
  refine ⟨k + 1, ?_⟩
  rw [parse]
  rw [deeper_ok hd, tookD_yes (took_in hk (by rw [ht]; exact inL_iff.1 (by decide))), ht, if_neg (by decide), if_pos rfl, h]
  rfl
theorem Rd.pre {d : Nat} {t : Tok} {o : ByteArray} (hd : d < 60) (hk : t.kind = 3) (ht : t.text = o) (ho : o = sInc ∨ o = sDec) (hn : (nx t.to_).kind = 2) : Rd nx lit .unary d t (Ext.un (sPre ++ o) (varE (nx t.to_).text)) (nx (nx t.to_).to_) := by
  subst ht
  refine ⟨1, ?_⟩
  have hm : t.text ∈ unaryL ∧ ¬ t.text = sPlus ∧ ¬ t.text = sMinus := by
    rcases ho with h | h <;> rw [h] <;> exact ⟨inL_iff.1 (by decide), by decide, by decide⟩
  rw [parse, deeper_ok hd, tookD_yes (took_in hk hm.1), if_neg hm.2.1, if_neg hm.2.2, if_pos ho, if_pos hn]
theorem Rd.power {d : Nat} {t t1 : Tok} {x : E} (h : Rd nx lit .unary d t x t1) (hq : Quiet nx [sPw] t1) : Rd nx lit .power d t x t1 := by
  obtain ⟨k, h⟩ := h
  refine ⟨k + 1, ?_⟩
  rw [parse, h]
  exact tookD_no hq
theorem Rd.power2 {d : Nat} {t t1 t3 : Tok} {x y : E} (hd : d < 60) (h : Rd nx lit .unary d t x t1) (hk : t1.kind = 3) (ht : t1.text = sPw) (h2 : Rd nx lit .power (d + 1) (nx t1.to_) y t3) : Rd nx lit .power d t (bi sPw x y) t3 := by
  obtain ⟨k, h⟩ := h
  obtain ⟨k2, h2⟩ := h2
  refine ⟨max k k2 + 1, ?_⟩
  rw [parse, Rd.up h (Nat.le_max_left _ _)]
  show tookD nx [sPw] t1 _ _ = _
  rw [tookD_yes (took_in hk (by rw [ht]; exact inL_iff.1 (by decide)))]
  rw [deeper_ok hd, Rd.up h2 (Nat.le_max_right _ _)]
  rfl
theorem Rd.top {d : Nat} {t t1 : Tok} {x : E} (h : Rd nx lit .power d t x t1) : Rd nx lit (.level 10) d t x t1 := by
  obtain ⟨k, h⟩ := h
  refine ⟨k + 1, ?_⟩
  rw [parse, if_pos rfl, h]
theorem Rd.level {n d : Nat} {t t1 : Tok} {x : E} (hn : n < 10) (h : Rd nx lit (.level (n + 1)) d t x t1) (hq : Quiet nx (levelsL n) t1) : Rd nx lit (.level n) d t x t1 := by
  obtain ⟨k, h⟩ := h
  refine ⟨k + 1 + 1, ?_⟩
  rw [parse, if_neg (by omega), Rd.up h (Nat.le_succ k)]
  show leftGo nx (levelsL n) _ (k + 1) x t1 = _
  rw [leftGo, hq]
theorem Rd.level2 {n d : Nat} {t t1 t3 : Tok} {x y : E} {o : ByteArray} (hn : n < 10) (h : Rd nx lit (.level (n + 1)) d t x t1) (hk : t1.kind = 3) (ht : t1.text = o) (ho : o ∈ levelsL n) (h2 : Rd nx lit (.level (n + 1)) d (nx t1.to_) y t3) (hq : Quiet nx (levelsL n) t3) : Rd nx lit (.level n) d t (bi o x y) t3 := by
  obtain ⟨k, h⟩ := h
  obtain ⟨k2, h2⟩ := h2
  subst ht
  refine ⟨max k k2 + 1 + 1 + 1, ?_⟩
  rw [parse, if_neg (by omega), Rd.up h (by omega : k ≤ max k k2 + 1 + 1)]
  show leftGo nx (levelsL n) _ (max k k2 + 1 + 1) x t1 = _
  rw [leftGo, took_in hk ho]
  show ((parse nx lit (max k k2 + 1 + 1) (.level (n + 1)) d (nx t1.to_)).bind _) = _
  rw [Rd.up h2 (by omega : k2 ≤ max k k2 + 1 + 1)]
  show leftGo nx (levelsL n) _ (max k k2 + 1) _ t3 = _
  rw [leftGo, hq]
theorem Rd.choice {d : Nat} {t t1 : Tok} {x : E} (h : Rd nx lit (.level 0) d t x t1) (hq : Quiet nx [sQu] t1) : Rd nx lit .choice d t x t1 := by
  obtain ⟨k, h⟩ := h
  refine ⟨k + 1, ?_⟩
  rw [parse, h]
  exact tookD_no hq
theorem Rd.choice3 {d : Nat} {t t1 t2 t3 : Tok} {x y z : E} (hd : d < 60) (h : Rd nx lit (.level 0) d t x t1) (hk : t1.kind = 3) (ht : t1.text = sQu) (h2 : Rd nx lit .assign (d + 1) (nx t1.to_) y t2) (hk2 : t2.kind = 3) (ht2 : t2.text = sCl)
    (h3 : Rd nx lit .choice (d + 1) (nx t2.to_) z t3) : Rd nx lit .choice d t (.mk sTern em 0 [x, y, z]) t3 := by
  obtain ⟨k, h⟩ := h
  obtain ⟨k2, h2⟩ := h2
  obtain ⟨k3, h3⟩ := h3
  refine ⟨max k (max k2 k3) + 1, ?_⟩
  rw [parse, Rd.up h (by omega : k ≤ max k (max k2 k3))]
  show tookD nx [sQu] t1 _ _ = _
  rw [tookD_yes (took_in hk (by rw [ht]; exact inL_iff.1 (by decide)))]
  rw [deeper_ok hd, Rd.up h2 (by omega : k2 ≤ max k (max k2 k3))]
  show wantF nx sCl t2 _ = _
  rw [want_yes hk2 ht2, Rd.up h3 (by omega : k3 ≤ max k (max k2 k3))]
  rfl
theorem Rd.assign {d : Nat} {t t1 : Tok} {x : E} (h : Rd nx lit .choice d t x t1) (hq : isVar x = true → Quiet nx assignsL t1) : Rd nx lit .assign d t x t1 := by
  obtain ⟨k, h⟩ := h
  refine ⟨k + 1, ?_⟩
  rw [parse, h]
  show (if isVar x = true then _ else _) = _
  split
  · rename_i hv
    exact tookD_no (hq hv)
  · rfl
theorem Rd.assign2 {d : Nat} {t t1 t3 : Tok} {x y : E} {o : ByteArray} (hd : d < 60) (h : Rd nx lit .choice d t x t1) (hv : isVar x = true) (hk : t1.kind = 3) (ht : t1.text = o) (ho : o ∈ assignsL) (h2 : Rd nx lit .assign (d + 1) (nx t1.to_) y t3) : Rd nx lit .assign d t (bi o x y) t3 := by
  obtain ⟨k, h⟩ := h
  obtain ⟨k2, h2⟩ := h2
  subst ht
  refine ⟨max k k2 + 1, ?_⟩
  rw [parse, Rd.up h (Nat.le_max_left _ _)]
  show (if isVar x = true then _ else _) = _
  rw [if_pos hv, tookD_yes (took_in hk ho)]
  rw [deeper_ok hd, Rd.up h2 (Nat.le_max_right _ _)]
  rfl
theorem Rd.comma {d : Nat} {t t1 : Tok} {x : E} (h : Rd nx lit .assign d t x t1) (hq : Quiet nx [sCo] t1) : Rd nx lit .comma d t x t1 := by
  obtain ⟨k, h⟩ := h
  refine ⟨k + 1 + 1, ?_⟩
  rw [parse, Rd.up h (Nat.le_succ k)]
  show leftGo nx [sCo] _ (k + 1) x t1 = _
  rw [leftGo, hq]
theorem Rd.comma2 {d : Nat} {t t1 t3 : Tok} {x y : E} (h : Rd nx lit .assign d t x t1) (hk : t1.kind = 3) (ht : t1.text = sCo) (h2 : Rd nx lit .assign d (nx t1.to_) y t3) (hq : Quiet nx [sCo] t3) : Rd nx lit .comma d t (bi sCo x y) t3 := by
  obtain ⟨k, h⟩ := h
  obtain ⟨k2, h2⟩ := h2
  refine ⟨max k k2 + 1 + 1 + 1, ?_⟩
  rw [parse, Rd.up h (by omega : k ≤ max k k2 + 1 + 1)]
  show leftGo nx [sCo] _ (max k k2 + 1 + 1) x t1 = _
  rw [leftGo, took_in hk (by rw [ht]; exact inL_iff.1 (by decide))]
  show ((parse nx lit (max k k2 + 1 + 1) .assign d (nx t1.to_)).bind _) = _
  rw [Rd.up h2 (by omega : k2 ≤ max k k2 + 1 + 1)]
  show leftGo nx [sCo] _ (max k k2 + 1) _ t3 = _
  rw [leftGo, hq, ht]
/-- From a power up to a level. -/
theorem Rd.climb {d : Nat} {t t1 : Tok} {x : E} (h : Rd nx lit .power d t x t1) (m : Nat) (hq : ∀ n, m ≤ n → n < 10 → Quiet nx (levelsL n) t1) : ∀ j, j ≤ 10 - m → m ≤ 10 → Rd nx lit (.level (10 - j)) d t x t1
  | 0, _, _ => h.top
  | j + 1, hj, hm => by
    have ih := Rd.climb h m hq j (by omega) hm
    rw [show 10 - j = 10 - (j + 1) + 1 by omega] at ih
    exact ih.level (by omega) (hq _ (by omega) (by omega))
theorem Rd.climbed {d : Nat} {t t1 : Tok} {x : E} (h : Rd nx lit .power d t x t1) (m : Nat) (hm : m ≤ 10) (hq : ∀ n, m ≤ n → n < 10 → Quiet nx (levelsL n) t1) : Rd nx lit (.level m) d t x t1 := by
  have := h.climb m hq (10 - m) (Nat.le_refl _) hm
  rwa [show 10 - (10 - m) = m by omega] at this
/-- From a level down to a lesser one. -/
theorem Rd.fall {n d : Nat} {t t1 : Tok} {x : E} (h : Rd nx lit (.level n) d t x t1) (hn : n ≤ 10) (hq : ∀ i, i < n → Quiet nx (levelsL i) t1) : ∀ j, j ≤ n → Rd nx lit (.level (n - j)) d t x t1
  | 0, _ => h
  | j + 1, hj => by
    have ih := Rd.fall h hn hq j (by omega)
    rw [show n - j = n - (j + 1) + 1 by omega] at ih
    exact ih.level (by omega) (hq _ (by omega))
theorem Rd.bottom {n d : Nat} {t t1 : Tok} {x : E} (h : Rd nx lit (.level n) d t x t1) (hn : n ≤ 10) (hq : ∀ i, i < n → Quiet nx (levelsL i) t1) : Rd nx lit (.level 0) d t x t1 := by
  have := h.fall hn hq n (Nat.le_refl _)
  rwa [Nat.sub_self] at this
end
end Go.Proofs.YtlbgnpllbogkeaaDoor.Ext
end

/- Proved: blanks ahead of a text change nothing but places (arith's parser, in plain Lean). No program's step. Proved: a fault's place, and each token's, is within the text (arith's parser, in plain Lean). No program's step. Proved: arith's parser in plain Lean: at tokens with a parenthesis in the end's place it reads what it reads without, or it is too deep. No program's step. Proved: in parentheses a text that is read is the same expression, or too deep, and behind ! it is that of one (arith.Parse in plain Lean). No program's step. Proved: what arith's parser reads may be; what it reads without bash's signs is plain (in plain Lean). No program's step. Proved: the digits of a number are read as it, as a literal too. Plain Lean: no program's step. Proved: an expression's text in plain Lean, and the tokens that arith reads at it. No program's step. -/
import Derived.Test.YtlbgnpllbogkeaaDoorVkArTok
import Derived.Test.YtlbgnpllbogkeaaDoorVkArRd
import Derived.Test.YtlbgnpllbogkeaaDoorVkArParse
import Derived.Test.YtlbgnpllbogkeaaDoorVkPr
import Derived.Test.YtlbgnpllbogkeaaDoorVkLit
import Derived.Lib.SlTrimSet
import Derived.Laws.Bits64
section
set_option linter.unusedVariables false
set_option linter.unusedSimpArgs false
namespace Go.Proofs.YtlbgnpllbogkeaaDoor.Ext
open Go.RowKit Go.Proofs.YtlbgnpllbogkeaaDoorW.PrintWords
theorem ba_eq {a b : ByteArray} (h : a.data.toList = b.data.toList) : a = b := ByteArray.ext (Array.ext' h)
theorem tail_eq (s : ByteArray) (a : Nat) : (s.extract a s.size).data.toList = s.data.toList.drop a := by
  rw [ByteArray.data_extract, Array.toList_extract, List.extract_eq_take_drop]
  rw [List.take_of_length_le]
  rw [List.length_drop, ← Lib.size_eq]
  exact Nat.le_refl _
theorem app_list (b s : ByteArray) : (b ++ s).data.toList = b.data.toList ++ s.data.toList := by simp
theorem app_size (b s : ByteArray) : (b ++ s).size = b.size + s.size := by simp
/-- The token, from where the blanks end. -/
def nextAt (s : ByteArray) (bash : Bool) (a : Nat) : Tok :=
  if a = s.size then ⟨0, em, a, a⟩
  else if nameOf (wordF (restF s a)) = true then ⟨2, wordF (restF s a), a, s.size - (restF s a).size + (wordF (restF s a)).size⟩
  else if (!dollarB s a && (litOf (wordF (restF s a))).2 == 0) = true then ⟨1, wordF (restF s a), a, s.size - (restF s a).size + (wordF (restF s a)).size⟩
  else if (dollarB s a || !((wordF (restF s a)).size == 0)) = true then ⟨4, wordF (restF s a), a, s.size - (restF s a).size + (wordF (restF s a)).size⟩
  else signGo s bash a signsL
theorem nextF_at (s : ByteArray) (bash : Bool) (i : Nat) : nextF s bash i = nextAt s bash (skipF s i) := rfl
section
variable {b s : ByteArray} {n : Nat}
end
end Go.Proofs.YtlbgnpllbogkeaaDoor.Ext
end

section
set_option linter.unusedVariables false
set_option linter.unusedSimpArgs false
namespace Go.Proofs.YtlbgnpllbogkeaaDoor.Ext
open Go.RowKit Go.Proofs.YtlbgnpllbogkeaaDoorW.PrintWords
def Tl (L : Nat) (t : Tok) : Prop := t.pos ≤ L ∧ t.to_ ≤ L
def Pl (L : Nat) : Rs → Prop
  | .out => True
  | .fault a _ => a ≤ L
  | .ok _ t => Tl L t
section
variable {nx : Nat → Tok} {L : Nat}
end
end Go.Proofs.YtlbgnpllbogkeaaDoor.Ext
end

section
set_option linter.unusedVariables false
set_option linter.unusedSimpArgs false
namespace Go.Proofs.YtlbgnpllbogkeaaDoor.Ext
section
variable {nx nx' : Nat → Tok} {n L : Nat}
theorem levels_paren : ∀ m, inL (levelsL m) sR = false := by
  intro m
  unfold levelsL
  split <;> decide
end
/-- Read to the end, or not read. -/
def Up (r : Rs) : Prop := (∃ x t, r = .ok x t ∧ t.kind = 0) ∨ ∃ a e, r = .fault a e
section
variable {nx : Nat → Tok} {lit : ByteArray → Int}
theorem took_end {l : List ByteArray} {t : Tok} (h : t.kind = 0) : tookF nx l t = none := by
  unfold tookF
  rw [if_neg (by rw [h]; exact fun e => by cases e.1)]
theorem left_end {l : List ByteArray} {one : Tok → Rs} {k : Nat} {x : E} {t : Tok} (h : t.kind = 0) (hk : 0 < k) : leftGo nx l one k x t = .ok x t := by
  obtain ⟨j, rfl⟩ := Nat.exists_eq_succ_of_ne_zero (Nat.ne_of_gt hk)
  rw [leftGo, took_end h]
theorem up_bind {r : Rs} {f : E → Tok → Rs} (h : Up r) (hf : ∀ x t, t.kind = 0 → f x t = .ok x t) : r.bind f = r := by
  rcases h with ⟨x, t, rfl, hk⟩ | ⟨a, e, rfl⟩
  · exact hf x t hk
  · rfl
theorem up_unary {k d : Nat} {t : Tok} (hd : d ≠ 60) (ht : tookF nx unaryL t = none) : parse nx lit (k + 1) .unary d t = parse nx lit k .post (d + 1) t := by
  rw [parse]
  unfold deeperF
  rw [if_neg hd]
  exact tookD_no ht
theorem up_power {k d : Nat} {t : Tok} (h : Up (parse nx lit k .unary d t)) : parse nx lit (k + 1) .power d t = parse nx lit k .unary d t := by
  rw [parse]
  exact up_bind h (fun x t hk => tookD_no (took_end hk))
theorem up_levels {k d : Nat} {t : Tok} (h : Up (parse nx lit k .unary d t)) : ∀ m, m ≤ 10 → parse nx lit (k + 2 + m) (.level (10 - m)) d t = parse nx lit k .unary d t
  | 0, _ => by
    rw [parse, if_pos rfl]
    exact up_power h
  | m + 1, hm => by
    have ih := up_levels h m (by omega)
    show parse nx lit (k + 2 + m + 1) (.level (10 - (m + 1))) d t = _
    rw [parse, if_neg (by omega), show 10 - (m + 1) + 1 = 10 - m from by omega, ih]
    exact up_bind h (fun x t hk => left_end hk (by omega))
theorem up_comma {k d : Nat} {t : Tok} (h : Up (parse nx lit k .unary d t)) : parse nx lit (k + 15) .comma d t = parse nx lit k .unary d t := by
  have h1 := up_levels h 10 (by omega)
  have h2 : parse nx lit (k + 13) .choice d t = parse nx lit k .unary d t := by
    rw [parse, h1]
    exact up_bind h (fun x t hk => tookD_no (took_end hk))
  have h3 : parse nx lit (k + 14) .assign d t = parse nx lit k .unary d t := by
    rw [parse, h2]
    refine up_bind h (fun x t hk => ?_)
    split
    · exact tookD_no (took_end hk)
    · rfl
  rw [parse, h3]
  exact up_bind h (fun x t hk => left_end hk (by omega))
end
end Go.Proofs.YtlbgnpllbogkeaaDoor.Ext
end

section
set_option linter.unusedVariables false
set_option linter.unusedSimpArgs false
namespace Go.Proofs.YtlbgnpllbogkeaaDoor.Ext
open Go.RowKit Go.Proofs.YtlbgnpllbogkeaaDoorW.PrintWords
section
variable {t : ByteArray} {a : Nat} {c : UInt8} {l : List UInt8}
theorem signs_at (ht : (t.extract a t.size).data.toList = c :: l) (bash : Bool) : ∀ L, signGo t bash a L = (match L.find? (fun g => g.data.toList.isPrefixOf (c :: l) && (bash || !inL bashesL g)) with
      | some g => ⟨3, g, a, a + g.size⟩
      | none => ⟨4, em, a, a + 1⟩ : Tok) := by
  intro L
  induction L with
  | nil => rfl
  | cons g L ih =>
    rw [signGo, List.find?_cons]
    unfold signOk Lib.hasPrefix
    rw [ht]
    cases g.data.toList.isPrefixOf (c :: l) && (bash || !inL bashesL g) with
    | true => rfl
    | false => exact ih
theorem next_sign (ht : (t.extract a t.size).data.toList = c :: l) (ha : a < t.size) (hb : blankB c = false) (hp : partB c = false) (hd : c ≠ 36) (bash : Bool) : nextF t bash a = signGo t bash a signsL := by
  have hsk : skipF t a = a := by
    have e := tail_eq t a
    rw [ht] at e
    unfold skipF runL
    rw [← e, List.takeWhile_cons, if_neg (by rw [hb]; decide)]
    rfl
  have hdl : dollarB t a = false := by
    unfold dollarB Lib.hasPrefix
    rw [ht, List.isPrefixOf_cons_cons, show ((36 : UInt8) == c) = false from beq_eq_false_iff_ne.2 (fun e => hd e.symm)]
    rfl
  have hr : (restF t a).data.toList = c :: l := by
    unfold dollarB at hdl
    unfold restF Lib.trimPrefix
    rw [hdl, ht]
    rfl
  have hw : wordF (restF t a) = em := by
    apply ba_eq
    unfold wordF runL
    rw [hr, List.takeWhile_cons, if_neg (by rw [hp]; decide)]
    simp only [ByteArray.data_extract, Array.toList_extract, List.extract_eq_take_drop, List.length_nil]
    rfl
  have hn : nameOf em = false := by decide
  have hl : ((litOf em).2 == 0) = false := by
    cases h : ((litOf em).2 == 0) with
    | false => rfl
    | true => exact absurd (lit_pos h) (by decide)
  unfold nextF
  rw [hsk, if_neg (by omega), hw, hn, hdl, hl, if_neg (by decide), if_neg (by decide), if_neg (by decide)]
end
theorem next_paren {t : ByteArray} {a : Nat} {l : List UInt8} (ht : (t.extract a t.size).data.toList = 40 :: l) (ha : a < t.size) (bash : Bool) : nextF t bash a = ⟨3, sL, a, a + 1⟩ := by
  rw [next_sign ht ha (by decide) (by decide) (by decide), signs_at ht]
  cases bash <;> simp [signsL, List.find?_cons, List.isPrefixOf, inL, bashesL] <;> rfl
theorem next_end (t : ByteArray) (bash : Bool) : (nextF t bash t.size).kind = 0 := by
  have h := skip_le t t.size (Nat.le_refl _)
  unfold nextF
  rw [if_pos (by omega)]
section
variable {nx nx' : Nat → Tok} {lit : ByteArray → Int} {n L : Nat}
end
section
variable {nx : Nat → Tok} {lit : ByteArray → Int}
end
section
variable {s : ByteArray}
end
end Go.Proofs.YtlbgnpllbogkeaaDoor.Ext
end

section
set_option linter.unusedVariables false
set_option linter.unusedSimpArgs false
namespace Go.Proofs.YtlbgnpllbogkeaaDoor.Ext
open Go.RowKit Go.Proofs.YtlbgnpllbogkeaaDoorW.PrintWords
mutual
def anyE (p : E → Bool) : E → Bool
  | .mk o m n ks => p (.mk o m n ks) || anysE p ks
def anysE (p : E → Bool) : List E → Bool
  | [] => false
  | k :: ks => anyE p k || anysE p ks
end
theorem anysE_eq (p : E → Bool) : ∀ ks, anysE p ks = ks.any (anyE p)
  | [] => by rw [anysE]; rfl
  | k :: ks => by rw [anysE, anysE_eq p ks]; rfl
theorem anyE_eq (p : E → Bool) (x : E) : anyE p x = (p x || x.kids.any (anyE p)) := by
  cases x with
  | mk o m n ks => rw [anyE, anysE_eq]; rfl
def singlesL : List ByteArray := [⟨#[33]⟩, ⟨#[126]⟩, sNeg]
def stepsL : List ByteArray := [⟨#[112, 114, 101, 43, 43]⟩, ⟨#[112, 114, 101, 45, 45]⟩, ⟨#[112, 111, 115, 116, 43, 43]⟩, ⟨#[112, 111, 115, 116, 45, 45]⟩]
def doublesL : List ByteArray := [⟨#[42]⟩, ⟨#[47]⟩, ⟨#[37]⟩, ⟨#[43]⟩, ⟨#[45]⟩, ⟨#[60, 60]⟩, ⟨#[62, 62]⟩, ⟨#[60]⟩, ⟨#[60, 61]⟩, ⟨#[62]⟩, ⟨#[62, 61]⟩, ⟨#[61, 61]⟩, ⟨#[33, 61]⟩, ⟨#[38]⟩, ⟨#[94]⟩, ⟨#[124]⟩, ⟨#[38, 38]⟩, ⟨#[124, 124]⟩, ⟨#[44]⟩, ⟨#[42, 42]⟩]
def countF (op : ByteArray) : Int × Bool := if inL singlesL op = true then (1, false) else if inL stepsL op = true then (1, true) else if inL assignsL op = true then (2, true) else if inL doublesL op = true then (2, false) else if op = sTern then (3, false) else (-1, false)
def headVar : List E → Bool
  | [] => false
  | k :: _ => isVar k
def singleF (x : E) : Bool := if x.op.size = 0 then decide (x.kids.length = 0) && (decide (0 ≤ x.num) && (decide (x.name.size = 0) || (decide (x.num = 0) && nameOf x.name)))
  else decide (x.name.size = 0) && (decide (x.num = 0) && (decide ((x.kids.length : Int) = (countF x.op).1) && (!(countF x.op).2 || headVar x.kids)))
def allF (x : E) : Bool := !anyE (fun y => !singleF y) x
theorem allF_eq (x : E) : allF x = (singleF x && !x.kids.any (fun k => !allF k)) := by
  have h : (fun k => !allF k) = anyE (fun y => !singleF y) := by
    funext k
    unfold allF
    rw [Bool.not_not]
  rw [h]
  unfold allF
  rw [anyE_eq, Bool.not_or, Bool.not_not]
theorem allF_inv {x : E} (h : allF x = true) : singleF x = true ∧ ∀ k ∈ x.kids, allF k = true := by
  rw [allF_eq, Bool.and_eq_true, Bool.not_eq_true', List.any_eq_false] at h
  exact ⟨h.1, fun k hk => by have := h.2 k hk; simpa using this⟩
def bashE (x : E) : Bool := decide (x.op = sPw) || inL stepsL x.op
def plainF (x : E) : Bool := !anyE bashE x
/-- What is asked of a token. -/
structure TokOk (bash : Bool) (t : Tok) : Prop where
  name : t.kind = 2 → nameOf t.text = true
  sign : t.kind = 3 → bash = true ∨ inL bashesL t.text = false
section
variable {nx : Nat → Tok} {bash : Bool}
end
end Go.Proofs.YtlbgnpllbogkeaaDoor.Ext
end

section
namespace Go.Proofs.YtlbgnpllbogkeaaDoor.Ext
open Go.RowKit Go.Proofs.YtlbgnpllbogkeaaDoorW.PrintWords
theorem digitsGo_append (b : Int) : ∀ (l1 l2 : List UInt8) (n : Int), digitsGo b (l1 ++ l2) n = (digitsGo b l1 n).bind (digitsGo b l2)
  | [], _, _ => rfl
  | c :: l1, l2, n => by
    simp only [List.cons_append, digitsGo]
    split
    · rfl
    · exact digitsGo_append b l1 l2 _
theorem dig10 : ∀ r : Fin 10, digitOf 10 (((48 + r.val).toUInt8.toNat : Int)) = (r.val : Int) := by decide +kernel
theorem dig10' (r : Nat) (h : r < 10) : digitOf 10 (((48 + r).toUInt8.toNat : Int)) = (r : Int) := dig10 ⟨r, h⟩
theorem decs_read (n : Nat) : n < 18446744073709551616 → digitsGo 10 (decs n) 0 = some (n : Int) := by
  induction n using Nat.strongRecOn with
  | ind n ih =>
    intro hn
    rw [decs]
    split
    · rename_i h
      simp only [digitsGo]
      rw [dig10' n h, if_neg (by omega), IntKind.wrap_u64, IntKind.wrap_u64]
      congr 1
      omega
    · rename_i h
      rw [digitsGo_append, ih (n / 10) (by omega) (by omega)]
      simp only [Option.bind_some, digitsGo]
      rw [dig10' (n % 10) (by omega), if_neg (by omega), IntKind.wrap_u64, IntKind.wrap_u64]
      congr 1
      omega
theorem decs_digit (n : Nat) : ∀ x ∈ decs n, 48 ≤ x.toNat ∧ x.toNat ≤ 57 := by
  induction n using Nat.strongRecOn with
  | ind n ih =>
    intro x hx
    rw [decs] at hx
    split at hx
    · rename_i h
      obtain rfl := List.mem_singleton.1 hx
      rw [UInt8.toNat_ofNat']
      omega
    · rename_i h
      rcases List.mem_append.1 hx with hx | hx
      · exact ih (n / 10) (by omega) x hx
      · obtain rfl := List.mem_singleton.1 hx
        rw [UInt8.toNat_ofNat']
        omega
theorem decs_ne (n : Nat) : decs n ≠ [] := by
  rw [decs]
  split <;> simp
theorem decs_head (n : Nat) : 1 ≤ n → ∀ c, (decs n).head? = some c → c.toNat ≠ 48 := by
  induction n using Nat.strongRecOn with
  | ind n ih =>
    intro hn c hc
    rw [decs] at hc
    split at hc
    · rename_i h
      obtain rfl := Option.some.inj hc
      rw [UInt8.toNat_ofNat']
      omega
    · rename_i h
      have hd : (decs (n / 10)).head? = some c := by
        cases hq : decs (n / 10) with
        | nil => exact absurd hq (decs_ne _)
        | cons a b => rw [hq] at hc; exact hc
      exact ih (n / 10) (by omega) (by omega) c hd
theorem decs_len1 (n : Nat) (h : 1 < (decs n).length) : 10 ≤ n := by
  rw [decs] at h
  split at h
  · simp at h
  · omega
theorem decs_length (n : Nat) : ∀ k, n < 10 ^ (k + 1) → (decs n).length ≤ k + 1 := by
  induction n using Nat.strongRecOn with
  | ind n ih =>
    intro k hk
    rw [decs]
    split
    · simp
    · rename_i h
      cases k with
      | zero => omega
      | succ k =>
        have := ih (n / 10) (by omega) k (by rw [Nat.pow_succ] at hk; omega)
        rw [List.length_append, List.length_singleton]
        omega
/-- The digits of a number, as a literal. -/
theorem lit_decs (n : Nat) (hn : n < 9223372036854775808) : number_Literal.f ⟨(decs n).toArray⟩ = some ((n : Int), 0) := by
  have hl := decs_length n 19 (by omega)
  have hsz : (⟨(decs n).toArray⟩ : ByteArray).size = (decs n).length := by rw [Lib.size_eq]
  unfold number_Literal.f
  rw [if_pos (by rw [hsz]; omega), if_neg]
  · unfold number_digits.f
    rw [if_pos ⟨by decide, by decide, by rw [hsz]; omega⟩]
    show litTell (match digitsGo 10 (decs n) 0 with
      | none => some (0, false)
      | some m => some (m, !(⟨(decs n).toArray⟩ : ByteArray).toList.isEmpty)) = _
    rw [decs_read n (by omega)]
    have he : (⟨(decs n).toArray⟩ : ByteArray).toList.isEmpty = false := by
      rw [Lib.toList_data]
      show (decs n).isEmpty = false
      cases h : decs n with
      | nil => exact absurd h (decs_ne n)
      | cons a b => rfl
    show litTell (some ((n : Int), !(⟨(decs n).toArray⟩ : ByteArray).toList.isEmpty)) = _
    rw [he]
    show some (if (!false) = true then (wrap64 (n : Int), (0 : Int)) else (0, 33)) = _
    rw [if_pos (by decide)]
    have : wrap64 (n : Int) = (n : Int) := by unfold wrap64; omega
    rw [this]
  · rintro ⟨h1, h2⟩
    rw [hsz] at h1
    have h10 := decs_len1 n h1
    obtain ⟨c, r, hcr⟩ : ∃ c r, decs n = c :: r := by
      cases h : decs n with
      | nil => exact absurd h (decs_ne n)
      | cons a b => exact ⟨a, b, rfl⟩
    have hh := decs_head n (by omega) c (by rw [hcr]; rfl)
    apply hh
    have : bt (⟨(decs n).toArray⟩ : ByteArray) 0 = (c.toNat : Int) := by
      rw [hcr]
      rfl
    rw [this] at h2
    omega
end Go.Proofs.YtlbgnpllbogkeaaDoor.Ext
end

section
set_option linter.unusedVariables false
set_option linter.unusedSimpArgs false
namespace Go.Proofs.YtlbgnpllbogkeaaDoor.Ext
open Go.RowKit Go.Proofs.YtlbgnpllbogkeaaDoorW.PrintWords
/-- What stands in parentheses where it is no leaf. -/
def closeL (x : E) (l : List UInt8) : List UInt8 := if x.op.size = 0 then l else 40 :: (l ++ [41])
def preOf (op : ByteArray) : Bool := (sPre.data.toList).isPrefixOf op.data.toList
def postOf (op : ByteArray) : Bool := (sPost.data.toList).isPrefixOf op.data.toList
def kidName (ks : List E) : List UInt8 := match ks with
  | [] => []
  | k :: _ => k.name.data.toList
/-- A text, by its kids' texts. -/
def textK (op nm : ByteArray) (n : Int) (ks : List E) (cs : List (List UInt8)) : List UInt8 :=
  if ¬ nm.size = 0 then nm.data.toList
  else if op.size = 0 then decsInt n
  else if op = sNeg then 45 :: 32 :: cs.getD 0 []
  else if inL singlesL op = true then op.data.toList ++ 32 :: cs.getD 0 []
  else if preOf op = true then op.data.toList.drop 3 ++ kidName ks
  else if postOf op = true then kidName ks ++ op.data.toList.drop 4
  else if op = sTern then cs.getD 0 [] ++ 32 :: 63 :: 32 :: (cs.getD 1 [] ++ 32 :: 58 :: 32 :: cs.getD 2 [])
  else cs.getD 0 [] ++ 32 :: (op.data.toList ++ 32 :: cs.getD 1 [])
mutual
def textF : E → List UInt8
  | .mk op nm n ks => textK op nm n ks (textsF ks)
def textsF : List E → List (List UInt8)
  | [] => []
  | k :: ks => closeL k (textF k) :: textsF ks
end
def closedF (x : E) : List UInt8 := closeL x (textF x)
theorem textsF_eq : ∀ ks, textsF ks = ks.map closedF
  | [] => by rw [textsF]; rfl
  | k :: ks => by rw [textsF, textsF_eq ks]; rfl
theorem textF_eq (x : E) : textF x = textK x.op x.name x.num x.kids (x.kids.map closedF) := by
  cases x with
  | mk op nm n ks => rw [textF, textsF_eq]; rfl
/-- Behind a place l stands. -/
def Sf (s : ByteArray) (p : Nat) (l : List UInt8) : Prop := s.data.toList.drop p = l ∧ p ≤ s.size
section
variable {s : ByteArray} {p : Nat}
theorem Sf.app {a b : List UInt8} (h : Sf s p (a ++ b)) : Sf s (p + a.length) b := by
  obtain ⟨h1, h2⟩ := h
  have hl := congrArg List.length h1
  rw [List.length_drop, List.length_append, ← Lib.size_eq] at hl
  refine ⟨?_, by omega⟩
  rw [← List.drop_drop, h1, List.drop_append_of_le_length (Nat.le_refl _), List.drop_length, List.nil_append]
theorem Sf.one {c : UInt8} {b : List UInt8} (h : Sf s p (c :: b)) : Sf s (p + 1) b := Sf.app (a := [c]) h
theorem Sf.lt {c : UInt8} {b : List UInt8} (h : Sf s p (c :: b)) : p < s.size := by
  obtain ⟨h1, h2⟩ := h
  have hl := congrArg List.length h1
  rw [List.length_drop, List.length_cons, ← Lib.size_eq] at hl
  omega
theorem Sf.tail {l : List UInt8} (h : Sf s p l) : (s.extract p s.size).data.toList = l := by rw [tail_eq]; exact h.1
theorem Sf.nil (h : Sf s p []) : p = s.size := by
  obtain ⟨h1, h2⟩ := h
  have hl := congrArg List.length h1
  rw [List.length_drop, List.length_nil, ← Lib.size_eq] at hl
  omega
theorem tok_end (h : Sf s p []) (bash : Bool) : (nextF s bash p).kind = 0 := by
  rw [h.nil]
  exact next_end s bash
/-- A blank is passed over. -/
theorem tok_blank {l : List UInt8} (h : Sf s p (32 :: l)) (bash : Bool) : nextF s bash p = nextF s bash (p + 1) := by
  have h1 := h.1
  have h2 := h.one.1
  have e : skipF s p = skipF s (p + 1) := by
    unfold skipF runL
    rw [h1, h2, List.takeWhile_cons, if_pos (by decide), List.length_cons]
    omega
  rw [nextF_at, nextF_at, e]
theorem prefix_mark (m : UInt8) (r : List UInt8) : ∀ (q a : List UInt8), ¬ m ∈ q → q.isPrefixOf (a ++ m :: r) = q.isPrefixOf (a ++ [m])
  | [], a, _ => by cases a <;> rfl
  | x :: q, [], h => by
    have hx : (x == m) = false := beq_eq_false_iff_ne.2 (fun e => h (by rw [e]; exact List.mem_cons_self))
    rw [List.nil_append, List.nil_append, List.isPrefixOf_cons_cons, List.isPrefixOf_cons_cons, hx]
    rfl
  | x :: q, y :: a, h => by
    rw [List.cons_append, List.cons_append, List.isPrefixOf_cons_cons, List.isPrefixOf_cons_cons, prefix_mark m r q a (fun e => h (List.mem_cons_of_mem _ e))]
theorem find_congr {α : Type} {P Q : α → Bool} : ∀ (L : List α), (∀ x ∈ L, P x = Q x) → L.find? P = L.find? Q
  | [], _ => rfl
  | x :: L, h => by
    rw [List.find?_cons, List.find?_cons, h x List.mem_cons_self, find_congr L (fun y hy => h y (List.mem_cons_of_mem _ hy))]
def findS (bash : Bool) (l : List UInt8) : Option ByteArray := signsL.find? (fun g => g.data.toList.isPrefixOf l && (bash || !inL bashesL g))
theorem signs_blank : ∀ g ∈ signsL, ¬ (32 : UInt8) ∈ g.data.toList := by decide
theorem find_blank (bash : Bool) (a r : List UInt8) : findS bash (a ++ 32 :: r) = findS bash (a ++ [32]) :=
  find_congr _ (fun g hg => by rw [prefix_mark 32 r _ a (signs_blank g hg)])
theorem tok_sign {g : ByteArray} {c : UInt8} {l r : List UInt8} (hg : g.data.toList ++ r = c :: l) (h : Sf s p (g.data.toList ++ r)) (bash : Bool) (hb : blankB c = false) (hp : partB c = false) (hd : c ≠ 36) (hf : findS bash (g.data.toList ++ r) = some g) :
    nextF s bash p = ⟨3, g, p, p + g.size⟩ := by
  rw [hg] at h hf
  rw [next_sign h.tail h.lt hb hp hd bash, signs_at h.tail bash]
  unfold findS at hf
  rw [hf]
/-- Signs that a blank stands behind. -/
def blankSigns : List ByteArray := assignsL ++ [sCo, sQu, sCl, sPw, ⟨#[33]⟩, ⟨#[126]⟩, sMinus] ++ (List.range 10).flatMap levelsL
def headOk : List UInt8 → Bool
  | [] => false
  | c :: _ => !blankB c && (!partB c && !(c == 36))
theorem signs_all : ∀ g ∈ blankSigns, decide (findS true (g.data.toList ++ [32]) = some g) = true ∧ (decide (g = sPw) = true ∨ decide (findS false (g.data.toList ++ [32]) = some g) = true) ∧ headOk g.data.toList = true := by decide +kernel
theorem tok_op {g : ByteArray} {r : List UInt8} (hg : inL blankSigns g = true) (h : Sf s p (g.data.toList ++ 32 :: r)) (bash : Bool) (hb : bash = true ∨ ¬ g = sPw) : nextF s bash p = ⟨3, g, p, p + g.size⟩ := by
  obtain ⟨h1, h2, h3⟩ := signs_all g (inL_iff.1 hg)
  have hf : findS bash (g.data.toList ++ 32 :: r) = some g := by
    rw [find_blank]
    cases bash with
    | true => exact of_decide_eq_true h1
    | false =>
      rcases hb with hb | hb
      · cases hb
      · rcases h2 with h2 | h2
        · exact absurd (of_decide_eq_true h2) hb
        · exact of_decide_eq_true h2
  cases e : g.data.toList with
  | nil => rw [e] at h3; cases h3
  | cons c l =>
    rw [e] at h3
    unfold headOk at h3
    rw [Bool.and_eq_true, Bool.and_eq_true, Bool.not_eq_true', Bool.not_eq_true', Bool.not_eq_true', beq_eq_false_iff_ne] at h3
    exact tok_sign (c := c) (l := l ++ 32 :: r) (by rw [e]; rfl) h bash h3.1 h3.2.1 h3.2.2 hf
theorem tok_open {r : List UInt8} (h : Sf s p (40 :: r)) (bash : Bool) : nextF s bash p = ⟨3, sL, p, p + 1⟩ := next_paren h.tail h.lt bash
theorem tok_close {r : List UInt8} (h : Sf s p (41 :: r)) (bash : Bool) : nextF s bash p = ⟨3, sR, p, p + 1⟩ := by
  rw [next_sign h.tail h.lt (by decide) (by decide) (by decide), signs_at h.tail]
  cases bash <;> simp [signsL, List.find?_cons, List.isPrefixOf, inL, bashesL] <;> rfl
theorem tok_inc {r : List UInt8} (h : Sf s p (43 :: 43 :: r)) : nextF s true p = ⟨3, sInc, p, p + 2⟩ := by
  rw [next_sign h.tail h.lt (by decide) (by decide) (by decide), signs_at h.tail]
  simp [signsL, List.find?_cons, List.isPrefixOf, inL, bashesL]
  rfl
theorem tok_dec {r : List UInt8} (h : Sf s p (45 :: 45 :: r)) : nextF s true p = ⟨3, sDec, p, p + 2⟩ := by
  rw [next_sign h.tail h.lt (by decide) (by decide) (by decide), signs_at h.tail]
  simp [signsL, List.find?_cons, List.isPrefixOf, inL, bashesL]
  rfl
theorem part_chars : ∀ c : Fin 256, (nameP c.val = true → partB c.val.toUInt8 = true) ∧ (partB c.val.toUInt8 = true → blankB c.val.toUInt8 = false ∧ c.val.toUInt8 ≠ 36) := by decide +kernel
theorem part_name {c : UInt8} (h : nameP c.toNat = true) : partB c = true := by
  have := (part_chars ⟨c.toNat, c.toNat_lt⟩).1 h
  simpa using this
theorem part_not {c : UInt8} (h : partB c = true) : blankB c = false ∧ c ≠ 36 := by
  have := (part_chars ⟨c.toNat, c.toNat_lt⟩).2 (by simpa using h)
  simpa using this
/-- Nothing of a word comes. -/
def NoPart (r : List UInt8) : Prop := ∀ c l, r = c :: l → partB c = false
theorem take_part {r : List UInt8} (hr : NoPart r) : ∀ l : List UInt8, (∀ c ∈ l, partB c = true) → (l ++ r).takeWhile partB = l
  | [], _ => by
    cases r with
    | nil => rfl
    | cons c r => rw [List.nil_append, List.takeWhile_cons, if_neg (by rw [hr c r rfl]; decide)]
  | c :: l, h => by
    rw [List.cons_append, List.takeWhile_cons, if_pos (h c List.mem_cons_self), take_part hr l (fun x hx => h x (List.mem_cons_of_mem _ hx))]
/-- The word that stands there. -/
theorem word_at {b : ByteArray} {r : List UInt8} (h : Sf s p (b.data.toList ++ r)) (hr : NoPart r) (hb : ∀ c ∈ b.data.toList, partB c = true) (h0 : 0 < b.size) :
    skipF s p = p ∧ dollarB s p = false ∧ wordF (restF s p) = b ∧ p < s.size ∧ s.size - (restF s p).size = p := by
  obtain ⟨c, l, hcl⟩ : ∃ c l, b.data.toList = c :: l := by
    cases e : b.data.toList with
    | nil => rw [Lib.size_eq, e] at h0; exact absurd h0 (by simp)
    | cons c l => exact ⟨c, l, rfl⟩
  have hc := part_not (hb c (by rw [hcl]; exact List.mem_cons_self))
  have ht := h.tail
  have h1 := h.1
  have hlt : p < s.size := by
    rw [hcl] at h
    exact h.lt
  have hdl : dollarB s p = false := by
    unfold dollarB Lib.hasPrefix
    rw [ht, hcl, List.cons_append, List.isPrefixOf_cons_cons, show ((36 : UInt8) == c) = false from beq_eq_false_iff_ne.2 (fun e => hc.2 e.symm)]
    rfl
  have hrs : (restF s p).data.toList = b.data.toList ++ r := by
    unfold dollarB at hdl
    unfold restF Lib.trimPrefix
    rw [hdl, ht]
    rfl
  refine ⟨?_, hdl, ?_, hlt, ?_⟩
  · unfold skipF runL
    rw [h1, hcl, List.cons_append, List.takeWhile_cons, if_neg (by rw [hc.1]; decide)]
    rfl
  · apply ba_eq
    unfold wordF runL
    rw [hrs, take_part hr _ hb, ByteArray.data_extract, Array.toList_extract, List.extract_eq_take_drop, List.drop_zero, Nat.sub_zero, hrs, List.take_left]
  · rw [Lib.size_eq (s := restF s p), hrs, ← h1, List.length_drop, ← Lib.size_eq]
    omega
theorem name_parts {b : ByteArray} (h : nameOf b = true) : (∀ c ∈ b.data.toList, partB c = true) ∧ 0 < b.size := by
  refine ⟨?_, name_pos h⟩
  unfold nameOf octets_Name.f at h
  split at h
  · simp only [Option.getD_some, Bool.and_eq_true] at h
    have h2 := h.2.1
    unfold everyB at h2
    rw [Bool.and_eq_true] at h2
    intro c hc
    exact part_name (List.all_eq_true.1 h2.2 c hc)
  · cases h
theorem tok_name {b : ByteArray} {r : List UInt8} (hn : nameOf b = true) (h : Sf s p (b.data.toList ++ r)) (hr : NoPart r) (bash : Bool) : nextF s bash p = ⟨2, b, p, p + b.size⟩ := by
  obtain ⟨h1, h2, h3, h4, h5⟩ := word_at h hr (name_parts hn).1 (name_parts hn).2
  unfold nextF
  rw [h1, if_neg (by omega), h3, if_pos hn, h5]
theorem digit_char : ∀ c : Fin 256, 48 ≤ c.val → c.val ≤ 57 → partB c.val.toUInt8 = true ∧ digitB c.val = true := by decide +kernel
theorem tok_num {n : Nat} {r : List UInt8} (hn : n < 9223372036854775808) (h : Sf s p (decs n ++ r)) (hr : NoPart r) (bash : Bool) : nextF s bash p = ⟨1, ⟨(decs n).toArray⟩, p, p + (decs n).length⟩ := by
  have hdg := decs_digit n
  have hne := decs_ne n
  have hch : ∀ c ∈ decs n, partB c = true ∧ digitB c.toNat = true := by
    intro c hc
    have := digit_char ⟨c.toNat, c.toNat_lt⟩ (hdg c hc).1 (hdg c hc).2
    simpa using this
  have hsz : (⟨(decs n).toArray⟩ : ByteArray).size = (decs n).length := by rw [Lib.size_eq]
  have h0 : 0 < (decs n).length := List.length_pos_iff.2 hne
  obtain ⟨h1, h2, h3, h4, h5⟩ := word_at (b := ⟨(decs n).toArray⟩) h hr (fun c hc => (hch c hc).1) (by rw [hsz]; exact h0)
  have hnm : nameOf ⟨(decs n).toArray⟩ = false := by
    unfold nameOf octets_Name.f
    split
    · have hd0 : digitB ((decs n).getD 0 0).toNat = true := by
        have hm : (decs n).getD 0 0 ∈ decs n := by
          rw [List.getD_eq_getElem?_getD, List.getElem?_eq_getElem h0]
          exact List.getElem_mem h0
        exact (hch _ hm).2
      show (decide _ && (everyB nameP _ && !digitB ((decs n).getD 0 0).toNat)) = false
      rw [hd0]
      simp
    · rfl
  have hlit : ((litOf ⟨(decs n).toArray⟩).2 == 0) = true := by
    unfold litOf
    rw [lit_decs n hn]
    rfl
  unfold nextF
  rw [h1, if_neg (by omega), h3, hnm, if_neg (by decide), h2, hlit, if_pos (by decide), h5, hsz]
end
theorem litV_decs (n : Nat) (hn : n < 9223372036854775808) : litV ⟨(decs n).toArray⟩ = (n : Int) := by
  unfold litV litOf
  rw [lit_decs n hn]
  rfl
end Go.Proofs.YtlbgnpllbogkeaaDoor.Ext
end

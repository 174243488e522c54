/- Proved: braces over lists of items, in plain Lean: what pieces, found and expand tell of items, at texts of the shapes that the laws make. Plain Lean: no program's step. -/
import Derived.Test.YtciflnnagkdjiaaDoorVsBrItems
set_option linter.unusedVariables false
set_option linter.unusedSimpArgs false
namespace Go.Proofs.YtciflnnagkdjiaaDoor.Ext
open Go.RowKit Go.Proofs.YtciflnnagkdjiaaDoorW.PrintWords
theorem nb {b : Bool} (h : b = false) : ¬ b = true := by rw [h]; decide
/-- Between commas that are in no inner braces, up to the }: the pieces' ends, and the place of the }. (i: the place; from: where a piece begins; op: open braces.) -/
def piecesGo : List ItemS → Nat → Nat → Nat → List (Nat × Nat) → Option (List (Nat × Nat) × Nat)
  | [], _, _, _, _ => none
  | c :: l, i, fr, op, out =>
    if isB c 123 = true then piecesGo l (i + 1) fr (op + 1) out
    else if isB c 125 = true then (if 0 < op then piecesGo l (i + 1) fr (op - 1) out else some (out ++ [(fr, i)], i))
    else if isB c 44 = true ∧ op = 0 then piecesGo l (i + 1) (i + 1) op (out ++ [(fr, i)])
    else piecesGo l (i + 1) fr op out
def piecesP (l : List ItemS) : Option (List (Nat × Nat) × Nat) := piecesGo l 0 0 0 []
def subL (l : List ItemS) (p : Nat × Nat) : List ItemS := (l.take p.2).drop p.1
/-- A span's words ([]: it is no span). -/
abbrev SpanF := List ItemS → List (List ItemS)
/-- What braces at place i hold, and the place of their }. -/
def foundAt (sp : SpanF) (l : List ItemS) (i : Nat) : Option (List (List ItemS) × Nat) :=
  match piecesP (l.drop (i + 1)) with
  | none => none
  | some (p, n) =>
    if p.length = 1 then (if (sp (subL (l.drop (i + 1)) (p.getD 0 (0, 0)))).length = 0 then none else some (sp (subL (l.drop (i + 1)) (p.getD 0 (0, 0))), n))
    else some (p.map (subL (l.drop (i + 1))), n)
def foundGo (sp : SpanF) (l : List ItemS) : List ItemS → Nat → Option (Nat × List (List ItemS) × Nat)
  | [], _ => none
  | c :: r, i => if isB c 123 = true then (match foundAt sp l i with | none => foundGo sp l r (i + 1) | some (q, n) => some (i, q, n)) else foundGo sp l r (i + 1)
def foundF (sp : SpanF) (l : List ItemS) : Option (Nat × List (List ItemS) × Nat) := foundGo sp l l 0
/-- All words of items; none: the rounds are used up; some none: more than 256. -/
def rowsOf (head : List ItemS) (behind : List (List ItemS)) : List (List ItemS) → List (List ItemS)
  | [] => []
  | x :: xs => (behind.map fun b => head ++ x ++ b) ++ rowsOf head behind xs
def outGo (ex : List ItemS → Option (Option (List (List ItemS)))) (head : List ItemS) (behind : List (List ItemS)) : List (List ItemS) → List (List ItemS) → Option (Option (List (List ItemS)))
  | [], out => some (some out)
  | p :: ps, out => match ex p with
    | none => none
    | some none => some none
    | some (some xs) => if (out ++ rowsOf head behind xs).length ≤ 256 then outGo ex head behind ps (out ++ rowsOf head behind xs) else some none
def expandF (sp : SpanF) : Nat → List ItemS → Option (Option (List (List ItemS)))
  | 0, _ => none
  | k + 1, l => match foundF sp l with
    | none => some (some [l])
    | some (i, q, n) => match expandF sp k (l.drop (i + n + 2)) with
      | none => none
      | some none => some none
      | some (some behind) => outGo (expandF sp k) (l.take i) behind q []
theorem foundGo_no (sp : SpanF) (l : List ItemS) : ∀ (r : List ItemS) (i : Nat), (∀ c ∈ r, isB c 123 = false) → foundGo sp l r i = none
  | [], _, _ => rfl
  | c :: r, i, h => by
    rw [foundGo, if_neg (nb (h c List.mem_cons_self))]
    exact foundGo_no sp l r (i + 1) (fun x hx => h x (List.mem_cons_of_mem _ hx))
theorem foundF_no (sp : SpanF) (l : List ItemS) (h : ∀ c ∈ l, isB c 123 = false) : foundF sp l = none := foundGo_no sp l l 0 h
theorem expandF_no (sp : SpanF) (k : Nat) (l : List ItemS) (h : ∀ c ∈ l, isB c 123 = false) : expandF sp (k + 1) l = some (some [l]) := by
  rw [expandF, foundF_no sp l h]
/-- A letter, a digit, a dot: nothing special. -/
def tame (c : ItemS) : Prop := isB c 123 = false ∧ isB c 125 = false ∧ isB c 44 = false
theorem pieces_tame : ∀ (x r : List ItemS) (i fr op : Nat) (out : List (Nat × Nat)), (∀ c ∈ x, tame c) → piecesGo (x ++ r) i fr op out = piecesGo r (i + x.length) fr op out
  | [], r, i, fr, op, out, _ => rfl
  | c :: x, r, i, fr, op, out, h => by
    obtain ⟨h1, h2, h3⟩ := h c List.mem_cons_self
    rw [List.cons_append, piecesGo, if_neg (nb h1), if_neg (nb h2), if_neg (fun e => nb h3 e.1), pieces_tame x r (i + 1) fr op out (fun y hy => h y (List.mem_cons_of_mem _ hy)), List.length_cons, Nat.add_comm x.length 1, ← Nat.add_assoc]
/-- Texts with commas between, and a }. -/
def commas : List (List ItemS) → List ItemS
  | [] => []
  | [x] => x
  | x :: y :: r => x ++ .oct 44 :: commas (y :: r)
/-- Their ends. -/
def ends : List (List ItemS) → Nat → List (Nat × Nat)
  | [], _ => []
  | x :: r, i => (i, i + x.length) :: ends r (i + x.length + 1)
theorem pieces_commas : ∀ (L : List (List ItemS)) (i : Nat) (out : List (Nat × Nat)) (b : List ItemS), L ≠ [] → (∀ x ∈ L, ∀ c ∈ x, tame c) → piecesGo (commas L ++ .oct 125 :: b) i i 0 out = some (out ++ ends L i, i + (commas L).length)
  | [], _, _, _, h, _ => absurd rfl h
  | [x], i, out, b, _, h => by
    rw [commas, pieces_tame x (.oct 125 :: b) i i 0 out (h x List.mem_cons_self), piecesGo, if_neg (by decide), if_pos (by rfl), if_neg (by decide)]
    rfl
  | x :: y :: r, i, out, b, _, h => by
    rw [commas, List.append_assoc, pieces_tame x _ i i 0 out (h x List.mem_cons_self), List.cons_append, piecesGo, if_neg (by decide), if_neg (by decide), if_pos (show isB (.oct 44) 44 = true ∧ 0 = 0 from ⟨rfl, rfl⟩),
      pieces_commas (y :: r) (i + x.length + 1) (out ++ [(i, i + x.length)]) b (by simp) (fun z hz => h z (List.mem_cons_of_mem _ hz))]
    congr 1
    rw [List.append_assoc]
    congr 1
    rw [List.length_append, List.length_cons]
    omega
theorem ends_len : ∀ (L : List (List ItemS)) (i : Nat), (ends L i).length = L.length
  | [], _ => rfl
  | x :: r, i => by rw [ends, List.length_cons, List.length_cons, ends_len r]
theorem ends_sub : ∀ (L : List (List ItemS)) (a b : List ItemS), L ≠ [] → (ends L a.length).map (subL (a ++ commas L ++ b)) = L
  | [], _, _, h => absurd rfl h
  | [x], a, b, _ => by
    rw [ends, ends, List.map_singleton, commas]
    unfold subL
    dsimp only
    congr 1
    rw [List.append_assoc, List.take_append, List.take_of_length_le (by omega), Nat.add_sub_cancel_left, List.take_append, List.take_of_length_le (Nat.le_refl _), Nat.sub_self, List.take_zero, List.append_nil, List.drop_left]
  | x :: y :: r, a, b, _ => by
    have ih := ends_sub (y :: r) (a ++ x ++ [ItemS.oct 44]) b (by simp)
    rw [ends, List.map_cons]
    have e1 : a ++ commas (x :: y :: r) ++ b = (a ++ x ++ [ItemS.oct 44]) ++ commas (y :: r) ++ b := by
      rw [commas]
      simp
    have e2 : (a ++ x ++ [ItemS.oct 44]).length = a.length + x.length + 1 := by simp; omega
    rw [e2, ← e1] at ih
    rw [ih]
    congr 1
    unfold subL
    dsimp only
    rw [commas, List.append_assoc, List.take_append, List.take_of_length_le (by omega), Nat.add_sub_cancel_left, List.append_assoc, List.take_append, List.take_of_length_le (Nat.le_refl _), Nat.sub_self, List.take_zero, List.append_nil, List.drop_left]
theorem foundGo_skip (sp : SpanF) (l : List ItemS) : ∀ (x r : List ItemS) (i : Nat), (∀ c ∈ x, tame c) → foundGo sp l (x ++ r) i = foundGo sp l r (i + x.length)
  | [], r, i, _ => rfl
  | c :: x, r, i, h => by
    rw [List.cons_append, foundGo, if_neg (nb (h c List.mem_cons_self).1), foundGo_skip sp l x r (i + 1) (fun y hy => h y (List.mem_cons_of_mem _ hy)), List.length_cons, Nat.add_comm x.length 1, ← Nat.add_assoc]
/-- a{l1,..,ln}b, at least two. -/
theorem found_list (sp : SpanF) (a b : List ItemS) (L : List (List ItemS)) (h2 : 2 ≤ L.length) (ha : ∀ c ∈ a, tame c) (hL : ∀ x ∈ L, ∀ c ∈ x, tame c) :
    foundF sp (a ++ .oct 123 :: (commas L ++ .oct 125 :: b)) = some (a.length, L, (commas L).length) := by
  have hne : L ≠ [] := fun e => by rw [e] at h2; simp at h2
  have hd : (a ++ .oct 123 :: (commas L ++ .oct 125 :: b)).drop (a.length + 1) = commas L ++ .oct 125 :: b := by
    rw [List.drop_append, List.drop_of_length_le (by omega), List.nil_append, Nat.add_sub_cancel_left, List.drop_succ_cons, List.drop_zero]
  have hp := pieces_commas L 0 [] b hne hL
  rw [List.nil_append, Nat.zero_add] at hp
  have hs := ends_sub L [] (.oct 125 :: b) hne
  rw [List.nil_append, List.length_nil] at hs
  unfold foundF
  rw [foundGo_skip sp _ a _ 0 ha, Nat.zero_add, foundGo, if_pos (show isB (.oct 123) 123 = true from rfl)]
  unfold foundAt piecesP
  rw [hd, hp]
  dsimp only
  rw [if_neg (by rw [ends_len]; omega), hs]
theorem outGo_one (sp : SpanF) (k : Nat) (a b : List ItemS) : ∀ (L out : List (List ItemS)), (∀ x ∈ L, ∀ c ∈ x, tame c) → out.length + L.length ≤ 256 → outGo (expandF sp (k + 1)) a [b] L out = some (some (out ++ L.map fun x => a ++ x ++ b))
  | [], out, _, _ => by rw [outGo, List.map_nil, List.append_nil]
  | x :: L, out, h, hn => by
    rw [List.length_cons] at hn
    rw [outGo, expandF_no sp k x (fun c hc => (h x List.mem_cons_self c hc).1)]
    dsimp only
    have hr : (out ++ rowsOf a [b] [x]).length = out.length + 1 := by simp [rowsOf]
    rw [if_pos (by omega), outGo_one sp k a b L _ (fun y hy => h y (List.mem_cons_of_mem _ hy)) (by omega)]
    simp [rowsOf]
theorem expand_list (sp : SpanF) (k : Nat) (a b : List ItemS) (L : List (List ItemS)) (h2 : 2 ≤ L.length) (h256 : L.length ≤ 256) (ha : ∀ c ∈ a, tame c) (hb : ∀ c ∈ b, tame c) (hL : ∀ x ∈ L, ∀ c ∈ x, tame c) :
    expandF sp (k + 2) (a ++ .oct 123 :: (commas L ++ .oct 125 :: b)) = some (some (L.map fun x => a ++ x ++ b)) := by
  have hd : (a ++ .oct 123 :: (commas L ++ .oct 125 :: b)).drop (a.length + (commas L).length + 2) = b := by
    rw [List.drop_append, List.drop_of_length_le (by omega), List.nil_append, show a.length + (commas L).length + 2 - a.length = ((commas L).length + 1) + 1 by omega, List.drop_succ_cons, List.drop_append, List.drop_of_length_le (by omega), List.nil_append, Nat.add_sub_cancel_left, List.drop_succ_cons, List.drop_zero]
  have ht : (a ++ .oct 123 :: (commas L ++ .oct 125 :: b)).take a.length = a := List.take_left
  rw [expandF, found_list sp a b L h2 ha hL]
  dsimp only
  rw [hd, ht, expandF_no sp k b (fun c hc => (hb c hc).1)]
  dsimp only
  rw [outGo_one sp k a b L [] hL (by simp; exact h256), List.nil_append]
/-- {x}, a span of some words without braces. -/
theorem expand_span (sp : SpanF) (k : Nat) (x : List ItemS) (q : List (List ItemS)) (hx : ∀ c ∈ x, tame c) (hsp : sp x = q) (h1 : 1 ≤ q.length) (h256 : q.length ≤ 256) (hq : ∀ y ∈ q, ∀ c ∈ y, tame c) :
    expandF sp (k + 2) (.oct 123 :: (x ++ [.oct 125])) = some (some q) := by
  have hp := pieces_commas [x] 0 [] [] (by simp) (fun y hy => by rw [List.mem_singleton.1 hy]; exact hx)
  have hs : subL (x ++ [.oct 125]) (0, x.length) = x := by
    unfold subL
    dsimp only
    rw [List.take_left, List.drop_zero]
  rw [List.nil_append, Nat.zero_add] at hp
  have hf : foundF sp (.oct 123 :: (x ++ [.oct 125])) = some (0, q, x.length) := by
    unfold foundF
    rw [foundGo, if_pos (show isB (.oct 123) 123 = true from rfl)]
    unfold foundAt piecesP
    rw [List.drop_succ_cons, List.drop_zero, show x ++ [.oct 125] = commas [x] ++ .oct 125 :: [] from rfl, hp]
    dsimp only
    rw [if_pos (show (ends [x] 0).length = 1 from rfl), show (ends [x] 0).getD 0 (0, 0) = (0, x.length) from by simp [ends], show commas [x] ++ .oct 125 :: [] = x ++ [.oct 125] from rfl, hs, hsp]
    rw [if_neg (by omega)]
    rfl
  rw [expandF, hf]
  dsimp only
  have hd : (.oct 123 :: (x ++ [.oct 125])).drop (0 + x.length + 2) = [] := List.drop_of_length_le (by simp)
  rw [hd, expandF_no sp k [] (by simp)]
  dsimp only
  have ho := outGo_one sp k [] [] q [] hq (by simp; exact h256)
  rw [List.take_zero, ho]
  simp
end Go.Proofs.YtciflnnagkdjiaaDoor.Ext

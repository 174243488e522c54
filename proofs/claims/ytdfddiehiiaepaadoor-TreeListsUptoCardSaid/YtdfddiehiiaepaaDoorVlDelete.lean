/- Proved: slices.DeleteFunc of nodes in a slice of the call's own, at whatever predicate that a function value gives: the nodes of which it does not hold. Condition: at most 2 to the 40 nodes. -/
import Derived.Test.YtdfddiehiiaepaaDoorVlClone
import Derived.Lib.SliceRun
import Derived.Laws.IdiomCopy
set_option linter.unusedVariables false
set_option linter.unusedSimpArgs false
namespace Go.Proofs.YtdfddiehiiaepaaDoor.Ext
open Go.RowKit Go.Shelf Go.Proofs.YtdfddiehiiaepaaDoorW.PrintWords Go.Proofs.YtdfddiehiiaepaaDoor.P
/-- A store into a row of cells. -/
theorem setCell_block {w : World} {g e o : Nat} {cur : Array Value} {fr : Nat × Nat} (h : w.heap[g]? = some (.cells cur e fr)) (ho : o < cur.size) (v : Value) :
    ∃ cur', (w.setCell ⟨g, o, none⟩ v).heap[g]? = some (.cells cur' e fr) ∧ cur'.size = cur.size ∧ cur'.toList = cur.toList.take o ++ v :: cur.toList.drop (o + 1) := by
  obtain ⟨hlt, hk⟩ := Array.getElem?_eq_some_iff.1 h
  refine ⟨cur.setIfInBounds o v, ?_, by simp, ?_⟩
  · show (w.heap.modify g _)[g]? = _
    rw [Array.getElem?_eq_getElem (by rw [Array.size_modify]; exact hlt), Array.getElem_modify_self, hk]
    rfl
  · rw [Array.toList_setIfInBounds, List.set_eq_take_append_cons_drop, if_pos (by simpa using ho)]
theorem setCells_block : ∀ (vs : List Value) {w : World} {g e o : Nat} {cur : Array Value} {fr : Nat × Nat}, w.heap[g]? = some (.cells cur e fr) → o + vs.length ≤ cur.size →
    ∃ cur', (w.setCells g o vs).heap[g]? = some (.cells cur' e fr) ∧ cur'.size = cur.size ∧ cur'.toList = cur.toList.take o ++ vs ++ cur.toList.drop (o + vs.length)
  | [], w, g, e, o, cur, fr, h, ho => ⟨cur, h, rfl, by simp⟩
  | v :: vs, w, g, e, o, cur, fr, h, ho => by
    simp only [List.length_cons] at ho
    obtain ⟨c1, h1, h2, h3⟩ := setCell_block h (o := o) (by omega) v
    obtain ⟨c2, g1, g2, g3⟩ := setCells_block vs h1 (o := o + 1) (by omega)
    refine ⟨c2, g1, by omega, ?_⟩
    have hlen : (cur.toList.take o).length = o := by rw [List.length_take]; simp; omega
    rw [g3, h3]
    have e1 : (cur.toList.take o ++ v :: cur.toList.drop (o + 1)).take (o + 1) = cur.toList.take o ++ [v] := by
      rw [show cur.toList.take o ++ v :: cur.toList.drop (o + 1) = (cur.toList.take o ++ [v]) ++ cur.toList.drop (o + 1) by simp]
      rw [List.take_left' (by simp; omega)]
    have e2 : (cur.toList.take o ++ v :: cur.toList.drop (o + 1)).drop (o + 1 + vs.length) = cur.toList.drop (o + (v :: vs).length) := by
      rw [show cur.toList.take o ++ v :: cur.toList.drop (o + 1) = (cur.toList.take o ++ [v]) ++ cur.toList.drop (o + 1) by simp]
      rw [List.drop_append, List.drop_eq_nil_of_le (by simp; omega), List.nil_append, List.drop_drop]
      congr 1
      simp
      omega
    rw [e1, e2]
    simp
theorem setCells_other (g : Nat) : ∀ (vs : List Value) (o : Nat) (w : World) (k : Nat), k ≠ g → (w.setCells g o vs).heap[k]? = w.heap[k]?
  | [], _, _, _, _ => rfl
  | v :: vs, o, w, k, hk => (setCells_other g vs (o + 1) _ k hk).trans (Below.heap_setCell w ⟨g, o, none⟩ v k hk)
theorem setCells_below (g : Nat) {B : Nat} {a : World} (hB : B ≤ g) : ∀ (vs : List Value) (o : Nat) (w : World), Below B a w → Below B a (w.setCells g o vs)
  | [], _, _, h => h
  | v :: vs, o, w, h => setCells_below g hB vs (o + 1) _ (h.setCell (p := ⟨g, o, none⟩) hB v)
theorem splice {α : Type} (A X : List α) (o N : Nat) (h1 : o + X.length ≤ N) (h2 : N ≤ A.length) : (A.take o ++ X ++ A.drop (o + X.length)).take N = (A.take N).take o ++ X ++ (A.take N).drop (o + X.length) := by
  have hB : (A.take N).length = N := by rw [List.length_take]; omega
  have e1 : A.take o = (A.take N).take o := by rw [List.take_take]; congr 1; omega
  have e2 : A.drop (o + X.length) = (A.take N).drop (o + X.length) ++ A.drop N := by
    have h := congrArg (List.drop (o + X.length)) (List.take_append_drop N A)
    rw [List.drop_append_of_le_length (by omega)] at h
    exact h.symm
  rw [e1, e2, ← List.append_assoc, List.take_left']
  rw [List.length_append, List.length_append, List.length_take, List.length_drop, hB]
  omega
/-- A node put into its place. -/
theorem OwnT.put {w : World} {base g n cap : Nat} {L : List S65} {i : Nat} {x : S65} (h : OwnT w base (.slice (some ⟨g, 0, none⟩) n cap) L) (hn : L.length = n) (hi : i < n) :
    OwnT (w.setCells g (i * 3) (cellsN x)) base (.slice (some ⟨g, 0, none⟩) n cap) (L.set i x) := by
  unfold OwnT at h ⊢
  obtain ⟨h1, h2⟩ := h
  refine ⟨by rw [cellsT_len], ?_⟩
  rcases h2 with ⟨h2, _⟩ | ⟨g', cap', cur, h2, hb, hh, h5, h6, h7, h8⟩
  · cases h2
  · cases h2
    obtain ⟨c', k1, k2, k3⟩ := setCells_block (cellsN x) hh (o := i * 3) (by rw [h7]; show i * 3 + 3 ≤ cap * 3; omega)
    refine .inr ⟨g, cap, c', by rw [List.length_set, hn], hb, k1, by rw [List.length_set]; exact h5, h6, by rw [k2, h7], ?_⟩
    rw [List.length_set, hn, k3]
    rw [hn] at h8
    have e1 : cellsT (L.set i x) = (cellsT L).take (i * 3) ++ cellsN x ++ (cellsT L).drop (i * 3 + 3) := by
      rw [List.set_eq_take_append_cons_drop, if_pos (by omega), cellsT_append, cellsT, cellsT_take, show i * 3 + 3 = (i + 1) * 3 by omega, cellsT_drop]
      simp [cellsN]
    rw [e1, ← h8]
    have hcur : cur.toList.length = cap * 3 := by simpa using h7
    exact splice cur.toList (cellsN x) (i * 3) (L.length * 3) (by show i * 3 + 3 ≤ _; omega) (by omega)
theorem OwnT.same {w w' : World} {base : Nat} {v : Value} {L : List S65} (h : OwnT w base v L) (hm : ∀ k, base ≤ k → k < w.heap.size → w'.heap[k]? = w.heap[k]?) : OwnT w' base v L := own_by h hm
theorem OwnT.at {w : World} {base g n cap : Nat} {L : List S65} (h : OwnT w base (.slice (some ⟨g, 0, none⟩) n cap) L) (hn : L.length = n) : g < w.heap.size ∧ base ≤ g ∧ n ≤ cap ∧ cap ≤ maxLen ∧ ∃ cur, w.heap[g]? = some (.cells cur 65 (0, 0)) ∧ cur.size = cap * 3 ∧ cur.toList.take (n * 3) = cellsT L := by
  unfold OwnT at h
  rcases h.2 with ⟨h2, _⟩ | ⟨g', cap', cur, h2, hb, hh, h5, h6, h7, h8⟩
  · cases h2
  · cases h2
    exact ⟨(Array.getElem?_eq_some_iff.1 hh).1, hb, by omega, h6, cur, hh, h7, by rw [← hn]; exact h8⟩
theorem frozen_row {w : World} {g e : Nat} {cur : Array Value} (h : w.heap[g]? = some (.cells cur e (0, 0))) (o : Nat) : w.frozen? ⟨g, o, none⟩ = false := by simp [World.frozen?, h]
end Go.Proofs.YtdfddiehiiaepaaDoor.Ext

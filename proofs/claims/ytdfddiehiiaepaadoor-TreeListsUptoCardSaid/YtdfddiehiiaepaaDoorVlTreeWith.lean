/- Proved: plain facts on a tree with a node put: it may be, the node is there, else all is as it was. No condition. -/
import Derived.Test.YtdfddiehiiaepaaDoorVlPureTreeAll
set_option linter.unusedVariables false
set_option linter.unusedSimpArgs false
namespace Go.Proofs.YtdfddiehiiaepaaDoor.PureT7
open Go.RowKit Go.Proofs.YtdfddiehiiaepaaDoor.P Go.Proofs.YtdfddiehiiaepaaDoor.Ext Go.Proofs.YtdfddiehiiaepaaDoorW.PrintWords
theorem tri7 : ∀ a b : List UInt8, ¬ a < b → a ≠ b → b < a
  | [], [], _, h => absurd rfl h
  | [], _ :: _, h, _ => absurd (by simp) h
  | _ :: _, [], _, _ => by simp
  | x :: a, y :: b, h, hne => by
    rw [List.cons_lt_cons_iff] at h ⊢
    have h1 : ¬ x < y := fun e => h (.inl e)
    by_cases hxy : x = y
    · subst hxy
      refine .inr ⟨rfl, tri7 a b (fun e => h (.inr ⟨rfl, e⟩)) (fun e => hne (by rw [e]))⟩
    · refine .inl ?_
      rcases UInt8.lt_or_eq_of_le (UInt8.not_lt.1 h1) with h2 | h2
      · exact h2
      · exact absurd h2.symm hxy
theorem is_at {t : List S65} {p : ByteArray} (h : bsIs t p = true) : ∃ hlt : bs t p < t.length, pk (t[bs t p]'hlt) = p.data.toList := by
  unfold bsIs at h
  simp only [Bool.and_eq_true, decide_eq_true_eq, beq_iff_eq] at h
  refine ⟨h.1, ?_⟩
  rw [rd_get h.1] at h
  exact (cmp7 _ _).2.1 h.2
theorem with_sorted {t : List S65} (hs : Sorted t) (n : S65) : Sorted (withB t n) := by
  obtain ⟨h1, h2, h3⟩ := bs_spec hs n.f0
  unfold withB
  cases hb : bsIs t n.f0
  · rw [if_neg (by simp)]
    have hno : ∀ m ∈ t, pk m ≠ n.f0.data.toList := fun m hm e => by
      have := ((found_iff hs n.f0).2 m hm e).1
      rw [hb] at this
      cases this
    have hlow : ∀ m ∈ t.take (bs t n.f0), pk m < pk n := fun m hm => by
      obtain ⟨j, hj, rfl⟩ := List.getElem_of_mem hm
      rw [List.length_take] at hj
      have := h2 j (by omega)
      rw [rd_get (by omega)] at this
      rw [List.getElem_take]
      exact this
    have hup : ∀ m ∈ t.drop (bs t n.f0), pk n < pk m := fun m hm => by
      have hmt := List.mem_of_mem_drop hm
      obtain ⟨j, hj, rfl⟩ := List.getElem_of_mem hm
      rw [List.length_drop] at hj
      have := h3 (bs t n.f0 + j) (by omega) (by omega)
      rw [rd_get (by omega)] at this
      rw [List.getElem_drop] at hmt ⊢
      exact tri7 _ _ this (hno _ hmt)
    unfold Sorted at hs ⊢
    rw [List.pairwise_append]
    refine ⟨hs.sublist (List.take_sublist _ _), ?_, fun a ha b hb => ?_⟩
    · rw [List.pairwise_cons]
      exact ⟨hup, hs.sublist (List.drop_sublist _ _)⟩
    · rcases List.mem_cons.1 hb with rfl | hb
      · exact hlow a ha
      · exact lt_tr7 (hlow a ha) (hup b hb)
  · rw [if_pos rfl]
    obtain ⟨hlt, he⟩ := is_at hb
    have hm : (t.set (bs t n.f0) n).map pk = t.map pk := by
      rw [List.map_set, show pk n = (t.map pk)[bs t n.f0]'(by rw [List.length_map]; exact hlt) by rw [List.getElem_map, he]; rfl, List.set_getElem_self]
    unfold Sorted at hs ⊢
    rw [← List.pairwise_map (f := pk) (R := fun a b => a < b)] at hs ⊢
    rw [hm]
    exact hs
theorem with_sub (t : List S65) (n m : S65) (h : m ∈ withB t n) : m = n ∨ m ∈ t := by
  unfold withB at h
  split at h
  · rcases List.mem_or_eq_of_mem_set h with h | h
    · exact .inr h
    · exact .inl h
  · rcases List.mem_append.1 h with h | h
    · exact .inr (List.mem_of_mem_take h)
    · rcases List.mem_cons.1 h with h | h
      · exact .inl h
      · exact .inr (List.mem_of_mem_drop h)
theorem with_sup (t : List S65) (n m : S65) (h : m ∈ t) (hne : pk m ≠ pk n) : m ∈ withB t n := by
  unfold withB
  cases hb : bsIs t n.f0
  · rw [if_neg (by simp)]
    rw [← List.take_append_drop (bs t n.f0) t] at h
    rcases List.mem_append.1 h with h | h
    · exact List.mem_append.2 (.inl h)
    · exact List.mem_append.2 (.inr (List.mem_cons_of_mem _ h))
  · rw [if_pos rfl]
    obtain ⟨hlt, he⟩ := is_at hb
    obtain ⟨j, hj, rfl⟩ := List.getElem_of_mem h
    have hji : bs t n.f0 ≠ j := fun e => hne (by subst e; exact he)
    have hj' : j < (t.set (bs t n.f0) n).length := by rw [List.length_set]; exact hj
    have e : (t.set (bs t n.f0) n)[j] = t[j] := List.getElem_set_ne hji hj'
    rw [← e]
    exact List.getElem_mem _
/-- Elsewhere there is what there was. -/
theorem with_kind {t : List S65} (hs : Sorted t) (n : S65) {q : ByteArray} (hq : pk n ≠ q.data.toList) : kindOf (withB t n) q = kindOf t q :=
  kind_same hs (with_sorted hs n) fun m hm => ⟨fun h => by
    rcases with_sub t n m h with rfl | h
    · exact absurd hm hq
    · exact h, fun h => with_sup t n m h (fun e => hq (e.symm.trans hm))⟩
/-- With a file where there was no directory, a tree that may be may be. -/
theorem with_check {t : List S65} {a x : ByteArray} (h : checkB t = true) (ha : badP a = false) (hk : kindOf t (pathB a) ≠ 2) (hd : kindOf t (dirB (pathB a)) = 2)
    (h1 : (withB t ⟨pathB a, false, x⟩).length ≤ 256) (h2 : total (withB t ⟨pathB a, false, x⟩) ≤ 65536) : checkB (withB t ⟨pathB a, false, x⟩) = true := by
  obtain ⟨hs, _, _, h4⟩ := (check_iff t).1 h
  have h47 : (pathB a).data.toList ≠ [47] := fun e => hk (kind_top t _ e)
  have hkeep : ∀ q : ByteArray, kindOf t q = 2 → kindOf (withB t ⟨pathB a, false, x⟩) q = 2 := fun q hq => by
    rw [with_kind hs ⟨pathB a, false, x⟩ (q := q) (fun e => hk (by rw [show pathB a = q from toB e]; exact hq))]
    exact hq
  refine (check_iff _).2 ⟨with_sorted hs _, h1, h2, fun n hn => ?_⟩
  rcases with_sub t _ n hn with rfl | hn
  · unfold nodeOk
    dsimp only
    rw [ok_path ha, path_self, hkeep _ hd]
    simp only [Bool.not_false, Bool.and_eq_true, Bool.true_and, beq_self_eq_true, Bool.false_and, and_true, true_and]
    rw [Lib.toList_data, Bool.not_eq_true', beq_eq_false_iff_ne]
    exact h47
  · have h5 := h4 n hn
    unfold nodeOk at h5 ⊢
    simp only [Bool.and_eq_true, beq_iff_eq] at h5 ⊢
    exact ⟨h5.1, hkeep _ h5.2⟩
theorem with_fits {t : List S65} {n : S65} (h : fitsT t = true) (hl : (withB t n).length ≤ 256) (ht : total (withB t n) ≤ 65536) (hn : n.f0.size ≤ 1099511627776) : fitsT (withB t n) = true := by
  unfold fitsT at h ⊢
  simp only [Bool.and_eq_true, decide_eq_true_eq, List.all_eq_true] at h ⊢
  refine ⟨⟨by omega, by omega⟩, fun m hm => ?_⟩
  rcases with_sub t n m hm with rfl | hm
  · exact hn
  · exact h.2 m hm
end Go.Proofs.YtdfddiehiiaepaaDoor.PureT7

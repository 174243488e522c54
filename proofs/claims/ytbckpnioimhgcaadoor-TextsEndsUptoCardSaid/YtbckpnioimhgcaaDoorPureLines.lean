/- Proved: the lines of a text (as told by texts.lines): put together they are the text; how many they are. Plain Lean: no program's step. -/
import Derived.Test.YtbckpnioimhgcaaDoorP29
import Derived.Lib.IndexLaws
set_option linter.unusedVariables false
namespace Go.Proofs.YtbckpnioimhgcaaDoor.PureL
open Go.RowKit Go.Proofs.YtbckpnioimhgcaaDoor.P Go.Proofs.YtbckpnioimhgcaaDoor.Ext Go.Proofs.YtbckpnioimhgcaaDoorW.PrintWords Go.Proofs.YtbckpnioimhgcaaDoorW.PrintLast

theorem w64 {x : Int} (h0 : -9223372036854775808 ≤ x) (h1 : x ≤ 9223372036854775807) : wrap64 x = x := by unfold wrap64; omega

theorem first_at (c : UInt8) (s : List UInt8) (h : c ∈ s) : ∃ o : Nat, Lib.indexByte s c = (o : Int) ∧ o < s.length ∧ s = s.take o ++ c :: s.drop (o + 1) ∧ c ∉ s.take o ∧ s.take (o + 1) = s.take o ++ [c] := by
  have h0 : 0 ≤ Lib.indexByte s c := by
    have h1 := Lib.indexByte_ge s c
    rcases Int.lt_or_le (Lib.indexByte s c) 0 with h2 | h2
    · have h3 := Lib.indexByte_none (l := s) (c := c) (by omega)
      obtain ⟨k, hk⟩ := List.mem_iff_getElem?.1 h
      exact absurd hk (h3 k)
    · exact h2
  obtain ⟨o, ho⟩ := Int.eq_ofNat_of_zero_le h0
  obtain ⟨h1, h2⟩ := Lib.indexByte_some ho
  obtain ⟨hlt, hget⟩ := List.getElem?_eq_some_iff.1 h1
  refine ⟨o, ho, hlt, ?_, ?_, by rw [List.take_succ_eq_append_getElem hlt, hget]⟩
  · have h3 := List.take_append_drop o s
    rw [List.drop_eq_getElem_cons hlt, hget] at h3
    exact h3.symm
  · intro hm
    obtain ⟨k, hk⟩ := List.mem_iff_getElem?.1 hm
    rw [List.getElem?_take] at hk
    split at hk
    · rename_i hko; exact h2 k hko hk
    · cases hk

theorem splitK_shape (c : UInt8) : ∀ (k : Nat) (s : List UInt8), s.count c = k →
    ∃ init t, Lib.splitK [c] 1 k s = init ++ [t] ∧ init.length = k ∧ init.flatten ++ t = s ∧ c ∉ t ∧ ∀ x ∈ init, ∃ y, x = y ++ [c]
  | 0, s, h => ⟨[], s, rfl, rfl, rfl, List.count_eq_zero.1 h, by simp⟩
  | k + 1, s, h => by
    obtain ⟨o, ho, hlt, hs, hno, ht⟩ := first_at c s (List.count_pos_iff.1 (by omega))
    have hc : (s.drop (o + 1)).count c = k := by
      have h1 := congrArg (List.count c) hs
      rw [List.count_append, List.count_cons_self, List.count_eq_zero.2 hno] at h1
      omega
    obtain ⟨init, t, e1, e2, e3, e4, e5⟩ := splitK_shape c k (s.drop (o + 1)) hc
    refine ⟨s.take (o + 1) :: init, t, ?_, by rw [List.length_cons, e2], ?_, e4, ?_⟩
    · rw [Lib.splitK, Lib.index_one, ho, if_neg (by simp), Int.toNat_natCast]
      show _ :: Lib.splitK [c] 1 k (s.drop (o + 1)) = _
      rw [e1]
      rfl
    · rw [List.flatten_cons, List.append_assoc, e3, List.take_append_drop]
    · intro x hx
      rcases List.mem_cons.1 hx with rfl | hx
      · exact ⟨_, ht⟩
      · exact e5 x hx

theorem last_of (c : UInt8) (init : List (List UInt8)) (h : ∀ x ∈ init, ∃ y, x = y ++ [c]) (hne : init ≠ []) : init.flatten.getLast? = some c := by
  obtain ⟨i2, y, rfl⟩ : ∃ i2 y, init = i2 ++ [y] := ⟨init.dropLast, init.getLast hne, (List.dropLast_concat_getLast hne).symm⟩
  obtain ⟨z, hz⟩ := h y (by simp)
  rw [hz]
  simp

/-- How many lines a text has. -/
def nlines (s : List UInt8) : Nat := s.count 10 + if s ≠ [] ∧ s.getLast? ≠ some 10 then 1 else 0

theorem lines_spec (s : ByteArray) (h : s.size ≤ 1000000000) : ∃ L, texts_lines.f s = some L ∧ (L.map (·.data.toList)).flatten = s.data.toList ∧ L.length = nlines s.data.toList := by
  have hsz : s.data.toList.length = s.size := by simp
  have hcnt : Lib.countB s ⟨#[10]⟩ = s.data.toList.count 10 := Lib.count_one 10 s.data.toList
  obtain ⟨init, t, e1, e2, e3, e4, e5⟩ := splitK_shape 10 _ s.data.toList rfl
  have hle : s.data.toList.count 10 ≤ s.data.toList.length := List.count_le_length
  have hp := Lib.splitB_data ⟨#[10]⟩ 1 (s.data.toList.count 10) s
  have hp2 : Lib.splitK (⟨#[10]⟩ : ByteArray).data.toList 1 (s.data.toList.count 10) s.data.toList = init ++ [t] := e1
  rw [hp2] at hp
  obtain ⟨p1, p2, hpp, hp1, hp2'⟩ := List.map_eq_append_iff.1 hp
  obtain ⟨x, rfl, hx⟩ := List.map_eq_singleton_iff.1 hp2'
  have hl1 : p1.length = s.data.toList.count 10 := by rw [← e2, ← hp1, List.length_map]
  unfold texts_lines.f strings_SplitAfter.f
  rw [if_pos ⟨by omega, rfl⟩, hcnt, hpp, Option.bind_some]
  have hlen : (((p1 ++ [x]).length : Int) - 1) = (p1.length : Int) := by rw [List.length_append, List.length_singleton]; omega
  rw [hlen, w64 (by omega) (by omega), if_pos (by omega), if_pos (by rw [List.length_append, List.length_singleton]; omega)]
  have hrd : rdOf ByteArray.empty (p1 ++ [x]) (p1.length : Int) = x := by
    unfold rdOf
    rw [Int.toNat_natCast, List.getD_eq_getElem?_getD, List.getElem?_append_right (Nat.le_refl _), Nat.sub_self]
    rfl
  rw [hrd, Lib.toList_data, hx]
  by_cases ht : t = []
  · rw [if_pos ht, if_pos (by rw [List.length_append, List.length_singleton]; omega), Int.toNat_natCast, List.take_left]
    rw [ht, List.append_nil] at e3
    refine ⟨p1, rfl, by rw [hp1]; exact e3, ?_⟩
    unfold nlines
    rw [hl1, if_neg ?_]
    · rfl
    · rintro ⟨hne, hlast⟩
      by_cases hi : init = []
      · rw [hi] at e3; exact hne e3.symm
      · exact hlast (by rw [← e3]; exact last_of 10 init e5 hi)
  · rw [if_neg ht]
    refine ⟨p1 ++ [x], rfl, ?_, ?_⟩
    · rw [List.map_append, hp1, List.flatten_append]
      simpa [hx] using e3
    · unfold nlines
      rw [List.length_append, List.length_singleton, hl1, if_pos ?_]
      refine ⟨?_, ?_⟩
      · intro h0
        rw [h0] at e3
        exact ht (List.append_eq_nil_iff.1 e3).2
      · intro h0
        rw [← e3, List.getLast?_append] at h0
        cases hg : t.getLast? with
        | none => exact ht (List.getLast?_eq_none_iff.1 hg)
        | some y =>
          rw [hg] at h0
          simp at h0
          subst h0
          exact e4 (List.mem_of_getLast? hg)

theorem join_flat (l : List (List UInt8)) : Lib.join l [] = l.flatten := by
  unfold Lib.join
  induction l with
  | nil => rfl
  | cons x l ih =>
    cases l with
    | nil => simp [List.intercalate]
    | cons y l => simp [List.intercalate, List.intersperse] at ih ⊢; exact ih

end Go.Proofs.YtbckpnioimhgcaaDoor.PureL

/- Proved: TextsEnds' law (as told) answers true for every text of at most 1048576 octets and every number. Plain Lean: no program's step. -/
import Derived.Test.YtbckpnioimhgcaaDoorP50
import Derived.Test.YtbckpnioimhgcaaDoorPureLines
import Derived.Test.YtbckpnioimhgcaaDoorCountW
set_option linter.unusedVariables false
namespace Go.Proofs.YtbckpnioimhgcaaDoor.PureE
open Go.RowKit Go.Proofs.YtbckpnioimhgcaaDoor.P Go.Proofs.YtbckpnioimhgcaaDoor.Ext Go.Proofs.YtbckpnioimhgcaaDoor.PureL Go.Proofs.YtbckpnioimhgcaaDoorW.PrintWords Go.Proofs.YtbckpnioimhgcaaDoorW.PrintLast Go.Proofs.YtbckpnioimhgcaaDoorW.PrintMore

theorem alive_true : cowrielaw11_alive.f = some true := by decide +kernel

theorem join_some (l : List ByteArray) (M : Nat) (hl : l.length ≤ 100000000) (h : (l.map (·.data.toList)).flatten.length ≤ 100000000) :
    strings_Join.f l ⟨#[]⟩ = some ⟨(l.map (·.data.toList)).flatten.toArray⟩ := by
  unfold strings_Join.f
  have e : (⟨#[]⟩ : ByteArray).data.toList = [] := rfl
  rw [e, join_flat, if_pos ⟨Nat.le_trans hl (by decide), Nat.le_trans h (by decide)⟩]

theorem ends (s : ByteArray) (hs : s.size ≤ 1048576) (n : Int) (h0 : 0 ≤ n) (h1 : n ≤ (nlines s.data.toList : Nat)) :
    ∃ h t, texts_Head.f s n = some h ∧ texts_Tail.f s ((nlines s.data.toList : Nat) - n) = some t ∧ h ++ t = s ∧ h.size + t.size = s.size := by
  obtain ⟨L, hL, hflat, hlen⟩ := lines_spec s (by omega)
  have hl0 : s.data.toList.length = s.size := by simp
  have hnl : nlines s.data.toList ≤ 1048577 := by
    unfold nlines
    have c0 : s.data.toList.count 10 ≤ s.data.toList.length := List.count_le_length
    split <;> omega
  obtain ⟨m, rfl⟩ := Int.eq_ofNat_of_zero_le h0
  have hm : m ≤ L.length := by omega
  have ht : ((L.take m).map (·.data.toList)).flatten ++ ((L.drop m).map (·.data.toList)).flatten = s.data.toList := by
    rw [← List.flatten_append, ← List.map_append, List.take_append_drop, hflat]
  have hll := congrArg List.length ht
  rw [List.length_append, hl0] at hll
  refine ⟨⟨((L.take m).map (·.data.toList)).flatten.toArray⟩, ⟨((L.drop m).map (·.data.toList)).flatten.toArray⟩, ?_, ?_, ?_, ?_⟩
  · unfold texts_Head.f
    rw [hL, Option.bind_some]
    have e : mx (mn (m : Int) (L.length : Int)) 0 = m := by unfold mx mn; split <;> split <;> omega
    rw [e, if_pos (by omega), if_pos (by omega), Int.toNat_natCast, join_some _ 0 (by rw [List.length_take]; omega) (by omega)]
    rfl
  · unfold texts_Tail.f
    rw [hL, Option.bind_some]
    have e : mx (mn ((nlines s.data.toList : Nat) - (m : Int)) (L.length : Int)) 0 = (nlines s.data.toList : Nat) - (m : Int) := by unfold mx mn; split <;> split <;> omega
    have e2 : wrap64 ((L.length : Int) - ((nlines s.data.toList : Nat) - (m : Int))) = m := by rw [w64 (by omega) (by omega)]; omega
    rw [e, e2, if_pos (by omega), if_pos (by omega), Int.toNat_natCast, join_some _ 0 (by rw [List.length_drop]; omega) (by omega)]
    rfl
  · apply ByteArray.ext
    apply Array.toList_inj.1
    rw [ByteArray.data_append, Array.toList_append]
    exact ht
  · show (((L.take m).map (·.data.toList)).flatten.toArray).size + (((L.drop m).map (·.data.toList)).flatten.toArray).size = s.size
    rw [List.size_toArray, List.size_toArray]
    exact hll

theorem rest_of (a N : Int) (hN0 : 0 ≤ N) (hN : N ≤ 2000000) :
    0 ≤ Int.tmod (wrap64 ((wrap64 ((Int.tmod a (N + 1)) + N)) + 1)) (N + 1) ∧ Int.tmod (wrap64 ((wrap64 ((Int.tmod a (N + 1)) + N)) + 1)) (N + 1) ≤ N := by
  have h1 := Int.tmod_lt_of_pos a (show 0 < N + 1 by omega)
  have h2 := Int.lt_tmod_of_pos a (show 0 < N + 1 by omega)
  rw [w64 (x := Int.tmod a (N + 1) + N) (by omega) (by omega), w64 (by omega) (by omega)]
  have h3 := Int.tmod_lt_of_pos (Int.tmod a (N + 1) + N + 1) (show 0 < N + 1 by omega)
  have h4 := Int.tmod_nonneg (N + 1) (show 0 ≤ Int.tmod a (N + 1) + N + 1 by omega)
  omega

theorem Count_eq (s : ByteArray) (h : s.size ≤ 1000000000) : texts_Count.f s = some (((s.data.toList.count 10 : Nat) : Int), ((wc false s.data.toList : Nat) : Int), (s.size : Int)) := by
  unfold texts_Count.f
  rw [if_pos h]

theorem step (s : ByteArray) (hs : s.size ≤ 1048576) (a x : Int) (b : Bool) (hx0 : 0 ≤ x) (hx : (if b then x + 1 else x) = (nlines s.data.toList : Nat)) : cowrielaw11_TextsEnds.j0 1 s a x b = some true := by
  have hl0 : s.data.toList.length = s.size := by simp
  have hnl : nlines s.data.toList ≤ 1048577 := by
    unfold nlines
    have c0 : s.data.toList.count 10 ≤ s.data.toList.length := List.count_le_length
    split <;> omega
  have hgo : ∀ N : Int, N = (nlines s.data.toList : Nat) → ∃ h t, texts_Head.f s (Int.tmod (wrap64 ((wrap64 ((Int.tmod a (N + 1)) + N)) + 1)) (N + 1)) = some h ∧ texts_Tail.f s (wrap64 (N - (Int.tmod (wrap64 ((wrap64 ((Int.tmod a (N + 1)) + N)) + 1)) (N + 1)))) = some t ∧ h ++ t = s ∧ h.size + t.size = s.size := by
    intro N hN
    obtain ⟨r0, r1⟩ := rest_of a N (by omega) (by omega)
    generalize Int.tmod (wrap64 ((wrap64 ((Int.tmod a (N + 1)) + N)) + 1)) (N + 1) = n at r0 r1
    rw [w64 (by omega) (by omega), hN]
    exact ends s hs n r0 (by omega)
  cases b
  · rw [if_neg (by simp)] at hx
    rw [cowrielaw11_TextsEnds.j0, if_neg (by simp), w64 (x := x + 1) (by omega) (by omega), if_neg (by omega)]
    obtain ⟨h, t, e1, e2, e3, e4⟩ := hgo x hx
    rw [e1, Option.bind_some, e2, Option.bind_some, if_pos (by omega), e3]
    simp
  · rw [if_pos rfl] at hx
    rw [cowrielaw11_TextsEnds.j0, if_pos rfl, w64 (x := x + 1) (by omega) (by omega), w64 (x := x + 1 + 1) (by omega) (by omega), if_neg (by omega)]
    obtain ⟨h, t, e1, e2, e3, e4⟩ := hgo (x + 1) hx
    rw [e1, Option.bind_some, e2, Option.bind_some, if_pos (by omega), e3]
    simp

theorem last_bt (s : ByteArray) (h : 0 < s.size) : ∃ c, s.data.toList.getLast? = some c ∧ bt s ((s.size : Int) - 1) = c.toNat := by
  have hi : ((s.size : Int) - 1).toNat < s.size := by omega
  have hl : s.data.toList.length = s.size := by simp
  refine ⟨s[((s.size : Int) - 1).toNat], ?_, by unfold bt; rw [dif_pos hi]⟩
  rw [List.getLast?_eq_getElem?]
  have e : s.data.toList.length - 1 = ((s.size : Int) - 1).toNat := by omega
  rw [e, List.getElem?_eq_getElem (by omega)]
  congr 1

theorem TextsEndsU (a0 : ByteArray) (a1 : Int) (h0 : a0.size ≤ 1048576) : ∃ k, cowrielaw11_TextsEnds.f k a0 a1 = some true := by
  refine ⟨1, ?_⟩
  unfold cowrielaw11_TextsEnds.f
  rw [alive_true, Option.bind_some, if_pos rfl, Count_eq a0 (by omega), Option.bind_some]
  by_cases he : a0.toList = ([] : List UInt8)
  · rw [if_pos he]
    rw [Lib.toList_data] at he
    refine step a0 h0 a1 _ false (by omega) ?_
    unfold nlines
    rw [he]
    simp
  · rw [if_neg he]
    rw [Lib.toList_data] at he
    have hp : 0 < a0.size := by
      have hl : a0.data.toList.length = a0.size := by simp
      have := List.length_pos_iff.2 he
      omega
    obtain ⟨c, hc, hb⟩ := last_bt a0 hp
    rw [w64 (by omega) (by omega), if_pos (by omega), if_pos (by omega), hb]
    refine step a0 h0 a1 _ _ (by omega) ?_
    unfold nlines
    rw [hc]
    by_cases hc10 : c = 10
    · subst hc10
      simp
    · have hn : ((c.toNat : Int) != 10) = true := by
        rw [bne_iff_ne]
        intro e
        apply hc10
        apply UInt8.toNat_inj.1
        show c.toNat = 10
        omega
      rw [hn, if_pos rfl, if_pos ⟨he, by simpa using hc10⟩]
      rfl

end Go.Proofs.YtbckpnioimhgcaaDoor.PureE

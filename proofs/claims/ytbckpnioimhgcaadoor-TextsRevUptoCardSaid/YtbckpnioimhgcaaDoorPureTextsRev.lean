/- Proved: TextsRev's law (as told) answers true for every text of at most 1048576 octets. Plain Lean: no program's step. -/
import Derived.Test.YtbckpnioimhgcaaDoorP48
import Derived.Test.YtbckpnioimhgcaaDoorEvery
import Derived.Lib.IndexLaws
set_option linter.unusedVariables false
namespace Go.Proofs.YtbckpnioimhgcaaDoor.PureR
open Go.RowKit Go.Proofs.YtbckpnioimhgcaaDoor.P Go.Proofs.YtbckpnioimhgcaaDoor.Ext Go.Proofs.YtbckpnioimhgcaaDoorW.PrintWords Go.Proofs.YtbckpnioimhgcaaDoorW.PrintLast

theorem alive_true : cowrielaw11_alive.f = some true := by decide +kernel

theorem first_at (c : UInt8) (s : List UInt8) (h : c ∈ s) : ∃ o : Nat, Lib.indexByte s c = (o : Int) ∧ o < s.length ∧ s = s.take o ++ c :: s.drop (o + 1) ∧ c ∉ s.take o := by
  have h0 : 0 ≤ Lib.indexByte s c := by
    have h1 := Lib.indexByte_ge s c
    rcases Int.lt_or_le (Lib.indexByte s c) 0 with h2 | h2
    · have h3 := Lib.indexByte_none (l := s) (c := c) (by omega)
      obtain ⟨k, hk⟩ := List.mem_iff_getElem?.1 h
      exact absurd hk (h3 k)
    · exact h2
  obtain ⟨o, ho⟩ := Int.eq_ofNat_of_zero_le h0
  obtain ⟨h1, h2⟩ := Lib.indexByte_some ho
  obtain ⟨hlt, hget⟩ := List.getElem?_eq_some_iff.1 h1
  refine ⟨o, ho, hlt, ?_, ?_⟩
  · have h3 := List.take_append_drop o s
    rw [List.drop_eq_getElem_cons hlt, hget] at h3
    exact h3.symm
  · intro hm
    obtain ⟨k, hk⟩ := List.mem_iff_getElem?.1 hm
    rw [List.getElem?_take] at hk
    split at hk
    · rename_i hko; exact h2 k hko hk
    · cases hk
theorem idx_none (c : UInt8) (s : List UInt8) (h : c ∉ s) : Lib.indexByte s c = -1 := by
  have h1 := Lib.indexByte_ge s c
  rcases Int.lt_or_le (Lib.indexByte s c) 0 with h2 | h2
  · omega
  · obtain ⟨o, ho⟩ := Int.eq_ofNat_of_zero_le h2
    exact absurd (List.mem_iff_getElem?.2 ⟨o, (Lib.indexByte_some ho).1⟩) h
theorem idx_first (c : UInt8) : ∀ (a b : List UInt8), c ∉ a → Lib.indexByte (a ++ c :: b) c = (a.length : Int)
  | [], b, _ => by simp [Lib.indexByte]
  | x :: a, b, h => by
    have hx : (x == c) = false := beq_eq_false_iff_ne.2 (fun e => h (by simp [e]))
    have ih := idx_first c a b (fun hm => h (List.mem_cons_of_mem _ hm))
    show Lib.indexByte (x :: (a ++ c :: b)) c = _
    unfold Lib.indexByte
    rw [hx, ih, if_neg (by simp), if_neg (by rw [beq_iff_eq]; omega), List.length_cons]
    omega

theorem ext_data (s : ByteArray) (i : Nat) : (s.extract i s.size).data.toList = s.data.toList.drop i := by
  rw [ByteArray.data_extract]
  simp
  rw [List.take_of_length_le (by simp)]
theorem ext_take (s : ByteArray) (i : Nat) : (s.extract 0 i).data.toList = s.data.toList.take i := by
  rw [ByteArray.data_extract]
  simp

/-- What is behind the lines: nothing, or a newline that was not there. -/
theorem lines_go : ∀ (k : Nat) (x : ByteArray) (L : List ByteArray), x.size + 1 < k → L.length + x.size ≤ 1000000000 →
    ∃ M, Q.octets_Lines.l0 k x L = some (L ++ M) ∧ (endL M = x.data.toList ∨ endL M = x.data.toList ++ [10]) ∧ (∀ y ∈ M, (10 : UInt8) ∉ y.data.toList) ∧ M.length ≤ x.size
  | 0, x, L, h, _ => by omega
  | k + 1, x, L, h, hl => by
    have hxl : x.data.toList.length = x.size := by simp
    rw [Q.octets_Lines.l0]
    by_cases he : x.toList = ([] : List UInt8)
    · rw [if_pos he]
      rw [Lib.toList_data] at he
      exact ⟨[], by rw [List.append_nil], .inl (by rw [he]; rfl), by simp, by simp⟩
    · rw [if_neg he]
      rw [Lib.toList_data] at he
      have hp : 0 < x.size := by
        have := List.length_pos_iff.2 he
        omega
      have hcut : strings_Cut.f x ⟨#[10]⟩ = some (cutAt x 10) := by
        unfold strings_Cut.f
        rw [if_pos (by omega)]
      rw [hcut, Option.bind_some, if_pos (by omega)]
      by_cases hm : (10 : UInt8) ∈ x.data.toList
      · obtain ⟨o, ho, hlt, hs, hno⟩ := first_at 10 _ hm
        have hc : cutAt x 10 = (x.extract 0 o, x.extract (o + 1) x.size, true) := by
          unfold cutAt
          rw [ho, if_pos (by omega), Int.toNat_natCast]
        rw [hc]
        dsimp only
        obtain ⟨M, e1, e2, e3, e4⟩ := lines_go k (x.extract (o + 1) x.size) (L ++ [x.extract 0 o]) (by rw [ByteArray.size_extract]; omega) (by rw [ByteArray.size_extract, List.length_append, List.length_singleton]; omega)
        refine ⟨x.extract 0 o :: M, by rw [e1, List.append_assoc]; rfl, ?_, ?_, ?_⟩
        · have hE : endL (x.extract 0 o :: M) = x.data.toList.take o ++ 10 :: endL M := by
            unfold endL
            rw [List.flatMap_cons, ext_take, List.append_assoc]
            rfl
          rw [hE]
          rw [ext_data] at e2
          rcases e2 with e2 | e2
          · left; rw [e2]; exact hs.symm
          · right
            rw [e2]
            conv => rhs; rw [hs]
            rw [List.append_assoc]
            rfl
        · intro y hy
          rcases List.mem_cons.1 hy with rfl | hy
          · rw [ext_take]; exact hno
          · exact e3 y hy
        · rw [ByteArray.size_extract] at e4
          rw [List.length_cons]
          omega
      · have hc : cutAt x 10 = (x, ⟨#[]⟩, false) := by
          unfold cutAt
          rw [idx_none 10 _ hm, if_neg (by omega)]
        rw [hc]
        dsimp only
        obtain ⟨k2, rfl⟩ : ∃ k2, k = k2 + 1 := ⟨k - 1, by omega⟩
        rw [Q.octets_Lines.l0, if_pos (by rw [Lib.toList_data])]
        refine ⟨[x], rfl, .inr ?_, by simpa using hm, by simp; omega⟩
        unfold endL
        simp
theorem lines_end : ∀ (M : List ByteArray) (k : Nat) (x : ByteArray) (L : List ByteArray), x.data.toList = endL M → (∀ y ∈ M, (10 : UInt8) ∉ y.data.toList) → M.length < k → L.length + M.length ≤ 1000000000 → x.size ≤ 1000000000 → Q.octets_Lines.l0 k x L = some (L ++ M)
  | M, 0, x, L, _, _, hk, _, _ => by omega
  | [], k + 1, x, L, hx, _, _, _, _ => by
    rw [Q.octets_Lines.l0, if_pos (by rw [Lib.toList_data, hx]; rfl), List.append_nil]
  | m :: M, k + 1, x, L, hx, hno, hk, hl, hs => by
    have hE : endL (m :: M) = m.data.toList ++ 10 :: endL M := by
      unfold endL
      rw [List.flatMap_cons, List.append_assoc]
      rfl
    rw [hE] at hx
    have hxl : x.data.toList.length = x.size := by simp
    have hm0 := hno m List.mem_cons_self
    have hix := idx_first 10 m.data.toList (endL M) hm0
    rw [← hx] at hix
    have hcut : strings_Cut.f x ⟨#[10]⟩ = some (cutAt x 10) := by
      unfold strings_Cut.f
      rw [if_pos (by omega)]
    have hml : m.data.toList.length = m.size := by simp
    have h1 : x.extract 0 m.data.toList.length = m := by
      apply ByteArray.ext
      apply Array.toList_inj.1
      rw [ext_take, hx, List.take_left]
    have h2 : (x.extract (m.data.toList.length + 1) x.size).data.toList = endL M := by
      rw [ext_data, hx]
      have : m.data.toList ++ 10 :: endL M = (m.data.toList ++ [10]) ++ endL M := by rw [List.append_assoc]; rfl
      rw [this, List.drop_left' (by rw [List.length_append, List.length_singleton])]
    rw [Q.octets_Lines.l0, if_neg (by rw [Lib.toList_data, hx]; simp), hcut, Option.bind_some]
    rw [List.length_cons] at hk hl
    have hc : cutAt x 10 = (m, x.extract (m.data.toList.length + 1) x.size, true) := by
      unfold cutAt
      rw [hix, if_pos (by omega), Int.toNat_natCast, h1]
    rw [if_pos (by omega), hc]
    dsimp only
    rw [lines_end M k _ (L ++ [m]) h2 (fun y hy => hno y (List.mem_cons_of_mem _ hy)) (by omega) (by rw [List.length_append, List.length_singleton]; omega) (by rw [ByteArray.size_extract]; omega), List.append_assoc]
    rfl

theorem rev_rev (x : ByteArray) : revB (revB x) = x := by
  unfold revB
  apply ByteArray.ext
  apply Array.toList_inj.1
  simp
theorem rev_no (x : ByteArray) (h : (10 : UInt8) ∉ x.data.toList) : (10 : UInt8) ∉ (revB x).data.toList := by
  unfold revB
  simpa using h
theorem rev_size (x : ByteArray) : (revB x).size = x.size := by
  show x.data.toList.reverse.toArray.size = x.data.size
  rw [List.size_toArray, List.length_reverse, Array.length_toList]
theorem endL_rev_len : ∀ M : List ByteArray, (endL (M.map revB)).length = (endL M).length
  | [] => rfl
  | m :: M => by
    have ih := endL_rev_len M
    have hE : ∀ (m : ByteArray) (M : List ByteArray), (endL (m :: M)).length = m.size + 1 + (endL M).length := by
      intro m M
      unfold endL
      rw [List.flatMap_cons, List.length_append, List.length_append, List.length_singleton]
      have : m.data.toList.length = m.size := by simp
      omega
    rw [List.map_cons, hE, hE, ih, rev_size]
theorem endL_mem : ∀ (M : List ByteArray) (y : ByteArray), y ∈ M → y.size ≤ (endL M).length
  | m :: M, y, hy => by
    have hE : (endL (m :: M)).length = m.size + 1 + (endL M).length := by
      unfold endL
      rw [List.flatMap_cons, List.length_append, List.length_append, List.length_singleton]
      have : m.data.toList.length = m.size := by simp
      omega
    rcases List.mem_cons.1 hy with rfl | hy
    · omega
    · have := endL_mem M y hy
      omega

theorem Rev_of (x : ByteArray) (M : List ByteArray) (hx : Q.octets_Lines.f (x.size + 2) x = some M) (hl : M.length ≤ 100000000) (he : (endL M).length ≤ 100000000) : texts_Rev.f x = some ⟨(endL (M.map revB)).toArray⟩ := by
  unfold texts_Rev.f
  have h1 : M.length ≤ 1000000000 := Nat.le_trans hl (by decide)
  have h2 : M.all (fun x => decide (x.size ≤ 1000000000)) = true := by
    rw [List.all_eq_true]
    intro y hy
    exact decide_eq_true (Nat.le_trans (Nat.le_trans (endL_mem M y hy) he) (by decide))
  rw [hx, Option.bind_some, if_pos ⟨h1, h2⟩]
  unfold texts_ended.f
  rw [if_pos ⟨by rw [endL_rev_len]; exact Nat.le_trans he (by decide), by rw [List.length_map]; exact h1⟩]

theorem TextsRevU (a0 : ByteArray) (h0 : a0.size ≤ 1048576) : cowrielaw11_TextsRev.f a0 = some true := by
  have hl0 : a0.data.toList.length = a0.size := by simp
  obtain ⟨M, e1, e2, e3, e4⟩ := lines_go (a0.size + 2) a0 [] (by omega) (by simp; omega)
  rw [List.nil_append] at e1
  have hle : (endL M).length ≤ a0.size + 1 := by
    rcases e2 with e2 | e2
    · rw [e2]; omega
    · rw [e2, List.length_append, List.length_singleton]; omega
  have r1 := Rev_of a0 M e1 (by omega) (by omega)
  have hs2 : (⟨(endL (M.map revB)).toArray⟩ : ByteArray).size = (endL M).length := by
    show (endL (M.map revB)).toArray.size = _
    rw [List.size_toArray, endL_rev_len]
  have hML : M.length ≤ (endL M).length := by
    clear e1 e2 e3 e4 hle r1 hs2
    induction M with
    | nil => simp
    | cons m M ih =>
      have hE : (endL (m :: M)).length = m.size + 1 + (endL M).length := by
        unfold endL
        rw [List.flatMap_cons, List.length_append, List.length_append, List.length_singleton]
        have : m.data.toList.length = m.size := by simp
        omega
      rw [hE, List.length_cons]
      omega
  have l2 := lines_end (M.map revB) ((⟨(endL (M.map revB)).toArray⟩ : ByteArray).size + 2) ⟨(endL (M.map revB)).toArray⟩ [] rfl (by
    intro y hy
    obtain ⟨z, hz, rfl⟩ := List.mem_map.1 hy
    exact rev_no z (e3 z hz)) (by rw [List.length_map, hs2]; omega) (by simp; omega) (by rw [hs2]; omega)
  rw [List.nil_append] at l2
  have r2 := Rev_of _ (M.map revB) l2 (by rw [List.length_map]; omega) (by rw [endL_rev_len]; omega)
  have hmm : (M.map revB).map revB = M := by
    rw [List.map_map]
    conv => rhs; rw [← List.map_id M]
    congr 1
    funext x
    exact rev_rev x
  rw [hmm] at r2
  unfold cowrielaw11_TextsRev.f
  rw [alive_true, Option.bind_some, if_pos rfl, r1, Option.bind_some, r2, Option.bind_some, Lib.toList_data, Lib.toList_data]
  rcases e2 with e2 | e2
  · rw [if_pos (by show endL M = _; exact e2)]
  · rw [if_neg (by show ¬ endL M = _; rw [e2]; simp), if_pos (by omega), Lib.toList_data, ByteArray.data_append, Array.toList_append]
    congr 1
    rw [beq_iff_eq]
    exact e2

end Go.Proofs.YtbckpnioimhgcaaDoor.PureR

/- Proved: TextsSwaps' law (as told) answers true for every two texts of at most 1048576 octets each. Plain Lean: no program's step. -/
import Derived.Test.YtbckpnioimhgcaaDoorP37
import Derived.Test.YtbckpnioimhgcaaDoorPureSet
import Derived.Lib.IndexLaws
set_option linter.unusedVariables false
set_option linter.unusedSectionVars false
namespace Go.Proofs.YtbckpnioimhgcaaDoor.PureSw
open Go.RowKit Go.Proofs.YtbckpnioimhgcaaDoor.P Go.Proofs.YtbckpnioimhgcaaDoor.Ext Go.Proofs.YtbckpnioimhgcaaDoorW.PrintWords Go.Proofs.YtbckpnioimhgcaaDoorW.PrintLast

theorem alive_true : cowrielaw11_alive.f = some true := by decide +kernel

theorem idx_at (c : UInt8) (l : List UInt8) (h : 0 ≤ Lib.indexByte l c) : l.getD (Lib.indexByte l c).toNat 0 = c := by
  obtain ⟨o, ho⟩ := Int.eq_ofNat_of_zero_le h
  have h1 := (Lib.indexByte_some ho).1
  rw [ho, List.getD_eq_getElem?_getD, Int.toNat_natCast, h1]
  rfl
theorem idx_no (c : UInt8) (l : List UInt8) (h : Lib.indexByte l c < 0) : c ∉ l := by
  have h1 := Lib.indexByte_ge l c
  have h2 := Lib.indexByte_none (l := l) (c := c) (by omega)
  intro hm
  obtain ⟨k, hk⟩ := List.mem_iff_getElem?.1 hm
  exact h2 k hk

theorem trans_same (o : ByteArray) (c : UInt8) : transF o o c.toNat = ((c.toNat : Int), true) := by
  unfold transF
  have hu : c.toNat.toUInt8 = c := by simp
  rw [hu]
  have hlt := idx_size o c
  split
  · rfl
  · rename_i hn
    have e : min (Lib.indexByte o.data.toList c) ((o.size : Int) - 1) = Lib.indexByte o.data.toList c := by omega
    rw [e, idx_at c _ (by omega)]
theorem turn_same (o : ByteArray) (l : List UInt8) : turnL (transF o o) l = l.map fun c => (c.toNat : Int) := by
  unfold turnL
  rw [← List.filterMap_eq_map]
  congr 1
  funext c
  rw [trans_same]
  rfl
theorem back (s : ByteArray) : strOfNums (s.data.toList.map fun c => (c.toNat : Int)) = s := by
  apply ByteArray.ext
  apply Array.toList_inj.1
  rw [strOfNums_data, List.map_map]
  conv => rhs; rw [← List.map_id s.data.toList]
  congr 1
  funext c
  simp

theorem bt_mem (s : ByteArray) (i : Int) (h0 : 0 ≤ i) (h : i < s.size) : ∃ c, c ∈ s.data.toList ∧ bt s i = c.toNat := by
  have hi : i.toNat < s.size := by omega
  refine ⟨s[i.toNat], ?_, by unfold bt; rw [dif_pos hi]⟩
  have : s[i.toNat] = s.data.toList[i.toNat]'(by simpa using hi) := by simp; rfl
  rw [this]
  exact List.getElem_mem _

theorem del_out (o s : ByteArray) (c : UInt8) (h : c ∈ (strOfNums (turnL (delF o) s.data.toList)).data.toList) : c ∉ o.data.toList := by
  rw [strOfNums_data] at h
  obtain ⟨x, hx, rfl⟩ := List.mem_map.1 h
  unfold turnL at hx
  obtain ⟨d, hd, he⟩ := List.mem_filterMap.1 hx
  unfold delF at he
  have hu : d.toNat.toUInt8 = d := by simp
  rw [hu] at he
  split at he
  · rename_i hlt
    have hlt := of_decide_eq_true hlt
    injection he with he
    subst he
    have e : UInt8.ofNat (d.toNat : Int).toNat = d := by simp
    rw [e]
    exact idx_no d _ hlt
  · cases he

section
variable (x0 x5 x7 x9 : ByteArray) (h5 : x5 = x0) (hne : ∀ i j : Int, 0 ≤ i → i < x7.size → 0 ≤ j → j < x9.size → bt x7 i ≠ bt x9 j) (h7 : x7.size ≤ 1000000000) (h9 : x9.size ≤ 1000000000)
include h5 hne h7 h9
theorem loop1 (i : Int) (hi : 0 ≤ i) (hi7 : i < x7.size) (hn : ∃ k, cowrielaw11_TextsSwaps.l0 k x0 x5 true x7 true x9 (i + 1) = some true) :
    ∀ (d : Nat) (j : Int), 0 ≤ j → (x9.size : Int) - j ≤ d → ∃ k, cowrielaw11_TextsSwaps.l1 k x0 x5 true x7 true x9 i j = some true
  | 0, j, h0, hd => by
    obtain ⟨k, hk⟩ := hn
    refine ⟨k + 1, ?_⟩
    rw [cowrielaw11_TextsSwaps.l1, if_neg (by omega), w64 (by omega) (by omega)]
    exact hk
  | d + 1, j, h0, hd => by
    by_cases hj : j < x9.size
    · obtain ⟨k, hk⟩ := loop1 i hi hi7 hn d (j + 1) (by omega) (by omega)
      refine ⟨k + 1, ?_⟩
      rw [cowrielaw11_TextsSwaps.l1, if_pos hj, if_pos hi, if_pos hi7, if_pos h0, if_neg (hne i j hi hi7 h0 hj), w64 (by omega) (by omega)]
      exact hk
    · obtain ⟨k, hk⟩ := hn
      refine ⟨k + 1, ?_⟩
      rw [cowrielaw11_TextsSwaps.l1, if_neg hj, w64 (by omega) (by omega)]
      exact hk
theorem loop0 : ∀ (d : Nat) (i : Int), 0 ≤ i → (x7.size : Int) - i ≤ d → ∃ k, cowrielaw11_TextsSwaps.l0 k x0 x5 true x7 true x9 i = some true
  | 0, i, h0, hd => by
    refine ⟨1, ?_⟩
    rw [cowrielaw11_TextsSwaps.l0, if_neg (by omega), if_pos rfl, if_pos rfl, h5]
    simp
  | d + 1, i, h0, hd => by
    by_cases hi : i < x7.size
    · obtain ⟨k, hk⟩ := loop1 x0 x5 x7 x9 h5 hne h7 h9 i h0 hi (loop0 d (i + 1) (by omega) (by omega)) x9.size 0 (by omega) (by omega)
      refine ⟨k + 1, ?_⟩
      rw [cowrielaw11_TextsSwaps.l0, if_pos hi]
      exact hk
    · refine ⟨1, ?_⟩
      rw [cowrielaw11_TextsSwaps.l0, if_neg hi, if_pos rfl, if_pos rfl, h5]
      simp
end

theorem TextsSwapsU (a0 a1 : ByteArray) (h0 : a0.size ≤ 1048576) (h1 : a1.size ≤ 1048576) : ∃ k, cowrielaw11_TextsSwaps.f k a0 a1 = some true := by
  obtain ⟨o, g, ho, hos⟩ := Set_total a1 h1
  have hT : texts_Translate.f a0 a1 a1 = if g = true then some (a0, true) else some (⟨#[]⟩, false) := by
    unfold texts_Translate.f
    rw [if_pos (by omega), ho, Option.bind_some, Option.bind_some]
    dsimp only
    cases g
    · rw [if_neg (by simp)]; rfl
    · rw [if_pos ⟨rfl, rfl, id⟩, if_pos (by omega), turn_same, back]; rfl
  have hD : texts_Delete.f a0 a1 = if g = true then some (strOfNums (turnL (delF o) a0.data.toList), true) else some (⟨#[]⟩, false) := by
    unfold texts_Delete.f
    rw [if_pos (by omega), ho, Option.bind_some]
  cases g
  · refine ⟨0, ?_⟩
    unfold cowrielaw11_TextsSwaps.f
    rw [alive_true, Option.bind_some, if_pos rfl, hT, hD, ho]
    rfl
  · have hs7 : (strOfNums (turnL (delF o) a0.data.toList)).size ≤ 1000000000 := by
      rw [strOfNums_size]
      have h2 := turn_le (delF o) a0.data.toList
      have h3 : a0.data.toList.length = a0.size := by simp
      omega
    obtain ⟨k, hk⟩ := loop0 a0 a0 (strOfNums (turnL (delF o) a0.data.toList)) o rfl (by
      intro i j hi hi7 hj hj9 e
      obtain ⟨c, hc, ec⟩ := bt_mem _ i hi hi7
      obtain ⟨d, hd, ed⟩ := bt_mem _ j hj hj9
      rw [ec, ed] at e
      have : c = d := UInt8.toNat_inj.1 (by omega)
      subst this
      exact del_out o a0 c hc hd) hs7 (by omega) (strOfNums (turnL (delF o) a0.data.toList)).size 0 (by omega) (by omega)
    refine ⟨k, ?_⟩
    unfold cowrielaw11_TextsSwaps.f
    rw [alive_true, Option.bind_some, if_pos rfl, hT, hD, ho]
    exact hk

end Go.Proofs.YtbckpnioimhgcaaDoor.PureSw

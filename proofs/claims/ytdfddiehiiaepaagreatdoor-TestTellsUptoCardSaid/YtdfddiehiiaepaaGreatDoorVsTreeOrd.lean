/- Proved: plain facts on trees: a tree in order is searched rightly; without a path's nodes a tree that may be still may be. No condition. -/
import Derived.Test.YtdfddiehiiaepaaGreatDoorVsTreeGP
import Derived.Sort.Walk0
set_option linter.unusedVariables false
set_option linter.unusedSimpArgs false
namespace Go.Proofs.YtdfddiehiiaepaaGreatDoor.Ext
open Go.RowKit Go.Proofs.YtdfddiehiiaepaaGreatDoor.P Go.Proofs.YtdfddiehiiaepaaGreatDoorW.PrintWords
theorem lt_irr7 : ∀ a : List UInt8, ¬ a < a
  | [] => by simp
  | b :: l => by
    rw [List.cons_lt_cons_iff]
    rintro (h | ⟨_, h⟩)
    · exact absurd h (UInt8.lt_irrefl b)
    · exact lt_irr7 l h
theorem lt_tr7 : ∀ {a b c : List UInt8}, a < b → b < c → a < c
  | _, [], [], h, g => by simp at g
  | _, [], _ :: _, h, g => by simp at h
  | _, _ :: _, [], h, g => by simp at g
  | [], _ :: _, _ :: _, h, g => by simp
  | x :: a, y :: b, z :: c, h, g => by
    rw [List.cons_lt_cons_iff] at h g ⊢
    rcases h with h | ⟨rfl, h⟩ <;> rcases g with g | ⟨rfl, g⟩
    · exact .inl (UInt8.lt_trans h g)
    · exact .inl h
    · exact .inl g
    · exact .inr ⟨rfl, lt_tr7 h g⟩
theorem cmp7 : ∀ a b : List UInt8, (Lib.compareBytes a b < 0 ↔ a < b) ∧ (Lib.compareBytes a b = 0 ↔ a = b)
  | [], [] => by simp [Lib.compareBytes]
  | [], _ :: _ => by simp [Lib.compareBytes]
  | _ :: _, [] => by simp [Lib.compareBytes]
  | x :: a, y :: b => by
    obtain ⟨h1, h2⟩ := cmp7 a b
    rw [Lib.compareBytes, List.cons_lt_cons_iff]
    by_cases hxy : x < y
    · rw [if_pos hxy]
      refine ⟨by simp [hxy], ?_⟩
      constructor
      · intro h; simp at h
      · intro h
        cases h
        exact absurd hxy (UInt8.lt_irrefl x)
    · rw [if_neg hxy]
      by_cases hyx : y < x
      · rw [if_pos hyx]
        have hne : x ≠ y := fun e => by subst e; exact UInt8.lt_irrefl x hyx
        simp [hxy, hne]
      · rw [if_neg hyx]
        have he : x = y := UInt8.le_antisymm (UInt8.not_lt.1 hyx) (UInt8.not_lt.1 hxy)
        subst he
        simp [hxy, h1, h2]
/-- A node's path. -/
def pk (n : S73) : List UInt8 := n.f0.data.toList
def Sorted (t : List S73) : Prop := t.Pairwise (fun a b => pk a < pk b)
theorem rd_get {t : List S73} {i : Nat} (h : i < t.length) : rd_T73 t (i : Int) = t[i] := by
  unfold rd_T73
  rw [Int.toNat_natCast, List.getD_eq_getElem?_getD, List.getElem?_eq_getElem h, Option.getD_some]
theorem incUp_iff (t : List S73) (i : Nat) : incUp t i = true ↔ ∀ j, 1 ≤ j → j < i → pk (rd_T73 t ((j - 1 : Nat) : Int)) < pk (rd_T73 t (j : Int)) := by
  unfold incUp
  rw [List.all_eq_true]
  constructor
  · intro h j h1 h2
    have := h j (List.mem_range.2 h2)
    rw [decide_eq_false (by omega), Bool.false_or, bytesLess_eq, decide_eq_true_eq, Lib.toList_data, Lib.toList_data] at this
    exact this
  · intro h j hj
    have hj := List.mem_range.1 hj
    by_cases h0 : j = 0
    · simp [h0]
    · rw [decide_eq_false h0, Bool.false_or, bytesLess_eq, decide_eq_true_eq, Lib.toList_data, Lib.toList_data]
      exact h j (by omega) hj
theorem inc_sorted (t : List S73) : incB t = true ↔ Sorted t := by
  rw [show incB t = incUp t t.length from rfl, incUp_iff]
  unfold Sorted
  rw [List.pairwise_iff_getElem]
  constructor
  · intro h
    have key : ∀ d i, i + d + 1 < t.length → pk (rd_T73 t (i : Int)) < pk (rd_T73 t ((i + d + 1 : Nat) : Int)) := by
      intro d
      induction d with
      | zero =>
        intro i hi
        have := h (i + 1) (by omega) (by omega)
        rwa [Nat.add_sub_cancel] at this
      | succ d ih =>
        intro i hi
        have h1 := ih i (by omega)
        have h2 := h (i + (d + 1) + 1) (by omega) (by omega)
        rw [Nat.add_sub_cancel] at h2
        exact lt_tr7 h1 h2
    intro i j hi hj hij
    have := key (j - i - 1) i (by omega)
    rw [rd_get hi, show i + (j - i - 1) + 1 = j by omega, rd_get hj] at this
    exact this
  · intro h j h1 h2
    have := h (j - 1) j (by omega) h2 (by omega)
    rw [rd_get (by omega), rd_get h2]
    exact this
theorem bsGo_spec (t : List S73) (p : ByteArray) : ∀ (k i j : Nat), j < k + i → i ≤ j → j ≤ t.length →
    (∀ m, m < i → pk (rd_T73 t (m : Int)) < p.data.toList) → (∀ m, j ≤ m → m < t.length → ¬ pk (rd_T73 t (m : Int)) < p.data.toList) → Sorted t →
    (bsGo t p k i j ≤ t.length ∧ (∀ m, m < bsGo t p k i j → pk (rd_T73 t (m : Int)) < p.data.toList) ∧ ∀ m, bsGo t p k i j ≤ m → m < t.length → ¬ pk (rd_T73 t (m : Int)) < p.data.toList)
  | 0, i, j, h, hij, hj, h1, h2, hs => by omega
  | k + 1, i, j, h, hij, hj, h1, h2, hs => by
    rw [bsGo]
    by_cases hlt : i < j
    · rw [if_pos hlt]
      have hm1 : i ≤ (i + j) / 2 := by omega
      have hm2 : (i + j) / 2 < j := by omega
      have hsr := List.pairwise_iff_getElem.1 hs
      by_cases hc : Lib.compareBytes (rd_T73 t (((i + j) / 2 : Nat) : Int)).f0.data.toList p.data.toList < 0
      · rw [if_pos hc]
        have hc' := (cmp7 _ _).1.1 hc
        refine bsGo_spec t p k _ _ (by omega) (by omega) hj (fun m hm => ?_) h2 hs
        rcases Nat.lt_or_ge m ((i + j) / 2) with h3 | h3
        · have h4 := hsr m ((i + j) / 2) (by omega) (by omega) h3
          rw [rd_get (by omega)]
          rw [rd_get (by omega)] at hc'
          exact lt_tr7 h4 hc'
        · obtain rfl : m = (i + j) / 2 := by omega
          exact hc'
      · rw [if_neg hc]
        have hc' : ¬ pk (rd_T73 t (((i + j) / 2 : Nat) : Int)) < p.data.toList := fun e => hc ((cmp7 _ _).1.2 e)
        refine bsGo_spec t p k _ _ (by omega) (by omega) (by omega) h1 (fun m hm hm2 => ?_) hs
        rcases Nat.lt_or_ge ((i + j) / 2) m with h3 | h3
        · have h4 := hsr ((i + j) / 2) m (by omega) (by omega) h3
          rw [rd_get (by omega)]
          rw [rd_get (by omega)] at hc'
          exact fun e => hc' (lt_tr7 h4 e)
        · obtain rfl : m = (i + j) / 2 := by omega
          exact hc'
    · rw [if_neg hlt]
      obtain rfl : i = j := by omega
      exact ⟨hj, h1, h2⟩
theorem bs_spec {t : List S73} (hs : Sorted t) (p : ByteArray) : bs t p ≤ t.length ∧ (∀ m, m < bs t p → pk (rd_T73 t (m : Int)) < p.data.toList) ∧ ∀ m, bs t p ≤ m → m < t.length → ¬ pk (rd_T73 t (m : Int)) < p.data.toList :=
  bsGo_spec t p (t.length + 1) 0 t.length (by omega) (Nat.zero_le _) (Nat.le_refl _) (fun m hm => by omega) (fun m h1 h2 => by omega) hs
theorem found_iff {t : List S73} (hs : Sorted t) (p : ByteArray) : (bsIs t p = true ↔ ∃ n ∈ t, pk n = p.data.toList) ∧ ∀ n ∈ t, pk n = p.data.toList → bsIs t p = true ∧ rd_T73 t (bs t p : Nat) = n := by
  obtain ⟨h1, h2, h3⟩ := bs_spec hs p
  have hsr := List.pairwise_iff_getElem.1 hs
  have key : ∀ n ∈ t, pk n = p.data.toList → bsIs t p = true ∧ rd_T73 t (bs t p : Nat) = n := by
    intro n hn he
    obtain ⟨i, hi, rfl⟩ := List.getElem_of_mem hn
    have h4 : bs t p ≤ i := by
      rcases Nat.lt_or_ge i (bs t p) with h | h
      · have := h2 i h
        rw [rd_get hi, he] at this
        exact absurd this (lt_irr7 _)
      · exact h
    have h5 : i ≤ bs t p := by
      rcases Nat.lt_or_ge (bs t p) i with h | h
      · have h6 := hsr (bs t p) i (by omega) hi h
        have h7 := h3 (bs t p) (Nat.le_refl _) (by omega)
        rw [rd_get (by omega)] at h7
        rw [he] at h6
        exact absurd h6 h7
      · exact h
    have h6 : bs t p = i := by omega
    unfold bsIs
    rw [h6, decide_eq_true hi, rd_get hi]
    refine ⟨?_, rfl⟩
    rw [Bool.true_and, beq_iff_eq]
    exact (cmp7 _ _).2.2 he
  refine ⟨⟨fun h => ?_, fun ⟨n, hn, he⟩ => (key n hn he).1⟩, key⟩
  unfold bsIs at h
  simp only [Bool.and_eq_true, decide_eq_true_eq, beq_iff_eq] at h
  refine ⟨_, List.getElem_mem h.1, ?_⟩
  rw [rd_get h.1] at h
  exact (cmp7 _ _).2.1 h.2
theorem kind_top (t : List S73) (p : ByteArray) (h : p.data.toList = [47]) : kindOf t p = 2 := by
  unfold kindOf
  rw [Lib.toList_data, if_pos (by simp [h])]
theorem kind_hit {t : List S73} (hs : Sorted t) {p : ByteArray} (h : p.data.toList ≠ [47]) {n : S73} (hn : n ∈ t) (he : pk n = p.data.toList) : kindOf t p = if n.f1 = true then 2 else 1 := by
  obtain ⟨h1, h2⟩ := (found_iff hs p).2 n hn he
  unfold kindOf
  rw [Lib.toList_data, if_neg (by simpa using h), if_pos h1, h2]
theorem kind_miss {t : List S73} (hs : Sorted t) {p : ByteArray} (h : p.data.toList ≠ [47]) (hn : ∀ n ∈ t, pk n ≠ p.data.toList) : kindOf t p = 0 := by
  unfold kindOf
  rw [Lib.toList_data, if_neg (by simpa using h), if_neg]
  intro hb
  obtain ⟨n, hm, he⟩ := (found_iff hs p).1.1 hb
  exact hn n hm he
end Go.Proofs.YtdfddiehiiaepaaGreatDoor.Ext

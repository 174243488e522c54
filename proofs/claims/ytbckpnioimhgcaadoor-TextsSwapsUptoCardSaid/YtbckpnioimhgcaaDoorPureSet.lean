/- Proved: printf.escape, printf.Escape and texts.Set (as told) answer for every text of at most 1048576 octets, and how long what they tell is. Plain Lean: no program's step. -/
import Derived.Test.YtbckpnioimhgcaaDoorTrans
set_option linter.unusedVariables false
namespace Go.Proofs.YtbckpnioimhgcaaDoor.Ext
open Go.RowKit Go.Proofs.YtbckpnioimhgcaaDoorW.PrintWords Go.Proofs.YtbckpnioimhgcaaDoorW.PrintLast Go.Proofs.YtbckpnioimhgcaaDoorW.PrintMore

theorem w64 {x : Int} (h0 : -9223372036854775808 ≤ x) (h1 : x ≤ 9223372036854775807) : wrap64 x = x := by unfold wrap64; omega
theorem strOf_size (l : List Int) : (strOfNums l).size = l.length := by simp [strOfNums, ByteArray.size]

theorem esc_j2 (k : Nat) (x5 x6 : Int) (h : 1 ≤ x6) : ∃ t n, Q.printf_escape.j2 (k + 1) x5 x6 = some (t, n) ∧ 0 ≤ n ∧ n ≤ x6 ∧ t.size ≤ 1 := by
  rw [Q.printf_escape.j2]
  split
  · exact ⟨_, _, rfl, by omega, by omega, by decide⟩
  · split
    · exact ⟨_, _, rfl, by omega, by omega, by decide⟩
    · exact ⟨_, _, rfl, by omega, by omega, by rw [strOf_size]; simp⟩
theorem esc_l0 (x0 : ByteArray) : ∀ (d k : Nat) (x5 x6 : Int), (4 : Int) - x6 ≤ d → d + 1 < k → 1 ≤ x6 → x6 ≤ x0.size → x6 ≤ 4 → ∃ t n, Q.printf_escape.l0 k x0 x5 x6 = some (t, n) ∧ 0 ≤ n ∧ n ≤ x0.size ∧ t.size ≤ 1
  | d, 0, _, _, _, hk, _, _, _ => by omega
  | d, 1, _, _, _, hk, _, _, _ => by omega
  | d, k + 2, x5, x6, hd, hk, h1, h2, h4 => by
    have hj : ∃ t n, Q.printf_escape.j2 (k + 1) x5 x6 = some (t, n) ∧ 0 ≤ n ∧ n ≤ x0.size ∧ t.size ≤ 1 := by
      obtain ⟨t, n, e, a, b, c⟩ := esc_j2 k x5 x6 h1
      exact ⟨t, n, e, a, by omega, c⟩
    rw [Q.printf_escape.l0]
    split
    · rename_i hlt
      have hlt' : x6 < x0.size ∧ x6 < 4 := by unfold mn at hlt; split at hlt <;> omega
      rw [if_pos (by omega), if_pos hlt'.1]
      split
      · split
        · rw [w64 (x := x6 + 1) (by omega) (by omega)]
          cases d with
          | zero => omega
          | succ d => exact esc_l0 x0 d (k + 1) _ (x6 + 1) (by omega) (by omega) (by omega) (by omega) (by omega)
        · exact hj
      · exact hj
    · exact hj

theorem hp_total (a b : ByteArray) : ∃ r, Q.strings_HasPrefix.f a b = some r := by
  unfold Q.strings_HasPrefix.f Q.stringslite_HasPrefix.f
  split
  · rename_i h
    rw [if_pos (by omega)]
    exact ⟨_, rfl⟩
  · exact ⟨_, rfl⟩

theorem esc_total (s : ByteArray) : ∃ t n, Q.printf_escape.f 8 s = some (t, n) ∧ 0 ≤ n ∧ n ≤ s.size ∧ t.size ≤ 1 := by
  unfold Q.printf_escape.f
  obtain ⟨r, hr⟩ := hp_total s ⟨#[92]⟩
  rw [hr, Option.bind_some]
  have h0 : ∃ t n, Q.printf_escape.j0 8 s true = some (t, n) ∧ 0 ≤ n ∧ n ≤ s.size ∧ t.size ≤ 1 := by
    rw [Q.printf_escape.j0, if_pos rfl]
    exact ⟨_, _, rfl, by omega, by omega, by decide⟩
  split
  · by_cases h2 : (s.size : Int) < 2
    · rw [decide_eq_true h2]
      exact h0
    · rw [decide_eq_false h2, Q.printf_escape.j0, if_neg (by simp), if_pos (by omega)]
      unfold strings_IndexByte.f
      rw [Option.bind_some]
      have hlt : Lib.indexByte (⟨#[92, 97, 98, 102, 110, 114, 116, 118]⟩ : ByteArray).data.toList (bt s 1).toNat.toUInt8 < 8 := idx_lt _ _
      generalize Lib.indexByte (⟨#[92, 97, 98, 102, 110, 114, 116, 118]⟩ : ByteArray).data.toList (bt s 1).toNat.toUInt8 = m at hlt ⊢
      split
      · rename_i h3
        have hw := w64 (x := m + 1) (by omega) (by omega)
        rw [hw, if_pos (by omega), if_pos (by omega)]
        exact ⟨_, _, rfl, by omega, by omega, by rw [ByteArray.size_extract]; omega⟩
      · exact esc_l0 s 3 7 0 1 (by omega) (by omega) (by omega) (by omega) (by omega)
  · exact h0

theorem escL_total : ∀ (k : Nat) (s : ByteArray), s.size < k → ∃ l, escL k s = some l ∧ l.length ≤ s.size
  | 0, _, h => by omega
  | k + 1, s, h => by
    rw [escL]
    split
    · exact ⟨[], rfl, by simp⟩
    · rename_i h0
      obtain ⟨t, n, e, a, b, c⟩ := esc_total s
      rw [e, Option.bind_some]
      dsimp only
      split
      · obtain ⟨l, hl, hle⟩ := escL_total k (s.extract 1 s.size) (by rw [ByteArray.size_extract]; omega)
        rw [hl]
        refine ⟨_, rfl, ?_⟩
        rw [ByteArray.size_extract] at hle
        have : ((s.extract 0 1).data.toList).length = 1 := by simp; omega
        rw [List.length_append, this]
        omega
      · rename_i hn
        rw [if_pos ⟨a, b, c⟩]
        obtain ⟨l, hl, hle⟩ := escL_total k (s.extract n.toNat s.size) (by rw [ByteArray.size_extract]; omega)
        rw [hl]
        refine ⟨_, rfl, ?_⟩
        rw [ByteArray.size_extract] at hle
        have : t.data.toList.length = t.size := by simp
        rw [List.length_append, this]
        omega

theorem Escape_total (s : ByteArray) (h : s.size ≤ 1000000000) : ∃ r, printf_Escape.f s = some r ∧ r.size ≤ s.size := by
  unfold printf_Escape.f
  rw [if_pos h]
  obtain ⟨l, hl, hle⟩ := escL_total (s.size + 1) s (by omega)
  rw [hl]
  refine ⟨_, rfl, ?_⟩
  show l.toArray.size ≤ _
  rw [List.size_toArray]
  exact hle

theorem bt_255 (s : ByteArray) (i : Int) : 0 ≤ bt s i ∧ bt s i ≤ 255 := bt_range s i

/-- The inner loop of a set's range, and what follows it. -/
theorem set_l1 (K : Nat) (hK : ∀ (k : Nat) (x : ByteArray) (L : List Int), x.size ≤ K → 600 * (x.size + 1) ≤ k → L.length + 300 * x.size ≤ 1000000000 → ∃ r b, T.texts_Set.l0 k x L = some (r, b) ∧ r.size ≤ L.length + 300 * x.size)
    (x : ByteArray) (hx : x.size ≤ K + 1) (h3 : 3 ≤ x.size) : ∀ (d k : Nat) (L : List Int) (c : Int), 0 ≤ c → c ≤ 255 → bt x 2 - c ≤ d → d ≤ 256 → 600 * x.size + d + 2 ≤ k → L.length + d + 300 * (x.size - 3) + 1 ≤ 1000000000 →
      ∃ r b, T.texts_Set.l1 k x L c = some (r, b) ∧ r.size ≤ L.length + d + 300 * (x.size - 3) + 1
  | d, 0, _, _, _, _, _, _, hk, _ => by omega
  | d, k + 1, L, c, h0, h1, hd, hd2, hk, hl => by
    have hb := bt_255 x 2
    rw [T.texts_Set.l1, if_pos (by omega)]
    split
    · rename_i hlt
      rw [if_pos (by omega)]
      cases d with
      | zero => omega
      | succ d =>
        have e : (c + 1) % 256 = c + 1 := by omega
        rw [e]
        obtain ⟨r, b, hr, hs⟩ := set_l1 K hK x hx h3 d k (L ++ [c]) (c + 1) (by omega) (by omega) (by omega) (by omega) (by omega) (by rw [List.length_append, List.length_singleton]; omega)
        exact ⟨r, b, hr, by rw [List.length_append, List.length_singleton] at hs; omega⟩
    · rw [if_pos (by omega), if_pos (by omega)]
      have hsz : (x.extract 3 x.size).size = x.size - 3 := by rw [ByteArray.size_extract]; omega
      obtain ⟨r, b, hr, hs⟩ := hK k (x.extract 3 x.size) (L ++ [bt x 2]) (by omega) (by rw [hsz]; omega) (by rw [hsz, List.length_append, List.length_singleton]; omega)
      exact ⟨r, b, hr, by rw [hsz, List.length_append, List.length_singleton] at hs; omega⟩

theorem set_l0 : ∀ (K k : Nat) (x : ByteArray) (L : List Int), x.size ≤ K → 600 * (x.size + 1) ≤ k → L.length + 300 * x.size ≤ 1000000000 → ∃ r b, T.texts_Set.l0 k x L = some (r, b) ∧ r.size ≤ L.length + 300 * x.size
  | K, 0, x, L, _, hk, _ => by omega
  | K, 1, x, L, _, hk, _ => by omega
  | 0, k + 2, x, L, hx, hk, hl => by
    have h0 : x.size = 0 := by omega
    rw [T.texts_Set.l0, if_pos (List.isEmpty_iff.1 (size_nil h0))]
    exact ⟨_, _, rfl, by rw [strOf_size]; omega⟩
  | K + 1, k + 2, x, L, hx, hk, hl => by
    rw [T.texts_Set.l0]
    split
    · exact ⟨_, _, rfl, by rw [strOf_size]; omega⟩
    · rename_i hne
      have hpos : 0 < x.size := by
        rcases Nat.eq_zero_or_pos x.size with h | h
        · exact absurd (List.isEmpty_iff.1 (size_nil h)) hne
        · exact h
      have hone : ∃ r b, T.texts_Set.j1 (k + 1) x L true = some (r, b) ∧ r.size ≤ L.length + 300 * x.size := by
        rw [T.texts_Set.j1, if_pos rfl, if_pos (by omega), if_pos (by omega), if_pos (by omega)]
        have hsz : (x.extract 1 x.size).size = x.size - 1 := by rw [ByteArray.size_extract]; omega
        obtain ⟨r, b, hr, hs⟩ := set_l0 K k (x.extract 1 x.size) (L ++ [bt x 0]) (by omega) (by rw [hsz]; omega) (by rw [hsz, List.length_append, List.length_singleton]; omega)
        exact ⟨r, b, hr, by rw [hsz, List.length_append, List.length_singleton] at hs; omega⟩
      split
      · exact hone
      · rename_i h3
        rw [if_pos (by omega)]
        cases hm : (bt x 1 != 45) with
        | true => exact hone
        | false =>
          rw [T.texts_Set.j1, if_neg (by simp), if_pos (by omega), if_pos (by omega)]
          split
          · exact ⟨_, _, rfl, by show 0 ≤ _; omega⟩
          · have hb0 := bt_255 x 0
            have hb2 := bt_255 x 2
            obtain ⟨r, b, hr, hs⟩ := set_l1 K (set_l0 K) x hx (by omega) 256 k L (bt x 0) (by omega) (by omega) (by omega) (by omega) (by omega) (by omega)
            exact ⟨r, b, hr, by omega⟩

theorem Set_total (s : ByteArray) (h : s.size ≤ 1048576) : ∃ r b, texts_Set.f s = some (r, b) ∧ r.size ≤ 1000000000 := by
  unfold texts_Set.f T.texts_Set.f
  obtain ⟨e, he, hes⟩ := Escape_total s (by omega)
  rw [he, Option.bind_some]
  obtain ⟨r, b, hr, hs⟩ := set_l0 e.size (600 * (s.size + 2)) e [] (Nat.le_refl _) (by omega) (by simp; omega)
  exact ⟨r, b, hr, by simp at hs; omega⟩

end Go.Proofs.YtbckpnioimhgcaaDoor.Ext

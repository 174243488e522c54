/- Proved: how many fields a text has (of the library's own walk over runes, at the four blanks) is a count over its octets; and the count of two texts with a newline between. Plain Lean: no program's step. -/
import Derived.Lib.FieldsP
import Derived.Lib.SpaceUEq
import Derived.Lib.RuneCount
set_option linter.unusedVariables false
namespace Go.Proofs.YtbckpnioimhgcaaDoor.Ext

def blankN (r : Nat) : Bool := decide (r = 32) || decide (r = 9) || decide (r = 10) || decide (r = 13)
def wc : Bool → List UInt8 → Nat
  | _, [] => 0
  | b, c :: l => if blankN c.toNat then wc false l else (if b then 0 else 1) + wc true l

theorem blank_low {r : Nat} (h : blankN r = true) : r < 128 := by
  simp only [blankN, Bool.or_eq_true, decide_eq_true_eq] at h
  omega
theorem blank_high {r : Nat} (h : 128 ≤ r) : blankN r = false := by
  cases e : blankN r with
  | false => rfl
  | true => have := blank_low e; omega

theorem decode_facts (s : ByteArray) (i : Nat) (h : i < s.size) :
    blankN (Utf8.decode s i).1 = blankN (s.get! i).toNat ∧ 1 ≤ (Utf8.decode s i).2 ∧ i + (Utf8.decode s i).2 ≤ s.size ∧ (blankN (Utf8.decode s i).1 = true → (Utf8.decode s i).2 = 1) ∧
      ∀ j, 1 ≤ j → j < (Utf8.decode s i).2 → blankN (s.get! (i + j)).toNat = false := by
  have hp := Lib.decode_width_pos s i h
  rw [Lib.decode_at] at hp ⊢
  generalize hn : s.size - i = n at hp ⊢
  have h0 := (s.get! i).toNat_lt
  generalize (s.get! i).toNat = b0 at hp h0 ⊢
  have hc := Lib.decodeN_conts n b0 (s.get! (i + 1)).toNat (s.get! (i + 2)).toNat (s.get! (i + 3)).toNat
  obtain ⟨c1, c2, c3, c4⟩ := hc
  have hj : ∀ j, 1 ≤ j → j < (Lib.decodeN n b0 (s.get! (i + 1)).toNat (s.get! (i + 2)).toNat (s.get! (i + 3)).toNat).2 → blankN (s.get! (i + j)).toNat = false := by
    intro j j1 j2
    have : j = 1 ∨ j = 2 ∨ j = 3 := by omega
    rcases this with rfl | rfl | rfl
    · exact blank_high (by have := c1 (by omega); omega)
    · exact blank_high (by have := c2 (by omega); omega)
    · exact blank_high (by have := c3 (by omega); omega)
  have hl : i + (Lib.decodeN n b0 (s.get! (i + 1)).toNat (s.get! (i + 2)).toNat (s.get! (i + 3)).toNat).2 ≤ s.size := by
    have := Lib.decodeN_le_n' n b0 (s.get! (i + 1)).toNat (s.get! (i + 2)).toNat (s.get! (i + 3)).toNat (by omega)
    omega
  refine ⟨?_, hp, hl, ?_, hj⟩
  · rcases Nat.lt_or_ge b0 128 with hb | hb
    · unfold Lib.decodeN
      rw [if_pos hb]
    · rw [blank_high hb]
      refine blank_high ?_
      rcases Lib.decodeN_cases n b0 (s.get! (i + 1)).toNat (s.get! (i + 2)).toNat (s.get! (i + 3)).toNat with ⟨x, e⟩ | ⟨x1, x2, x3, x4, e⟩ | ⟨x1, x2, x3, x4, x5, e⟩ | ⟨x, e⟩ | e
      · omega
      · rw [e]; exact x4
      · rw [e]; dsimp only; omega
      · omega
      · rw [e]; decide
  · intro hbl
    have hlow := blank_low hbl
    rcases Lib.decodeN_cases n b0 (s.get! (i + 1)).toNat (s.get! (i + 2)).toNat (s.get! (i + 3)).toNat with ⟨x, e⟩ | ⟨x1, x2, x3, x4, e⟩ | ⟨x1, x2, x3, x4, x5, e⟩ | ⟨x, e⟩ | e
    · rw [e]
    · rw [e] at hlow; dsimp only at hlow; omega
    · rw [e] at hlow; dsimp only at hlow; omega
    · omega
    · rw [e]

theorem get_list (s : ByteArray) (i : Nat) (h : i < s.size) : s.data.toList.drop i = s.get! i :: s.data.toList.drop (i + 1) := by
  have hl : i < s.data.toList.length := by simpa using h
  rw [List.drop_eq_getElem_cons hl]
  congr 1
  have : s.get! i = s.data[i]! := rfl
  rw [this]
  simp [h]

theorem wc_skip (s : ByteArray) : ∀ (k i : Nat) (b : Bool), i + k ≤ s.size → (∀ j, j < k → blankN (s.get! (i + j)).toNat = false) → 1 ≤ k →
    wc b (s.data.toList.drop i) = (if b then 0 else 1) + wc true (s.data.toList.drop (i + k))
  | 0, _, _, _, _, h => by omega
  | 1, i, b, h, hz, _ => by
    have h0 := hz 0 (by omega)
    rw [Nat.add_zero] at h0
    rw [get_list s i (by omega), wc, h0]
    rfl
  | k + 2, i, b, h, hz, _ => by
    have h0 := hz 0 (by omega)
    rw [Nat.add_zero] at h0
    rw [get_list s i (by omega), wc, h0]
    rw [wc_skip s (k + 1) (i + 1) true (by omega) (fun j hj => by have := hz (j + 1) (by omega); rwa [show i + (j + 1) = i + 1 + j by omega] at this) (by omega)]
    rw [show i + 1 + (k + 1) = i + (k + 2) by omega]
    simp

def openN : Option Nat → Nat
  | some _ => 1
  | none => 0
theorem openN_some (o : Option Nat) : openN o = if o.isSome then 1 else 0 := by cases o <;> rfl

theorem spans_count (s : ByteArray) : ∀ (f pos : Nat) (st : Option Nat) (acc : List (Nat × Nat)), s.size - pos ≤ f →
    (Lib.spansFromP blankN s f pos st acc).1.length + openN (Lib.spansFromP blankN s f pos st acc).2 = acc.length + openN st + wc st.isSome (s.data.toList.drop pos)
  | 0, pos, st, acc, h => by
    rw [Lib.spansFromP_end _ _ _ _ _ _ (by omega), List.drop_of_length_le (by simp; omega)]
    simp [wc]
  | f + 1, pos, st, acc, h => by
    rcases Nat.lt_or_ge pos s.size with hp | hp
    · obtain ⟨d1, d2, d3, d4, d5⟩ := decode_facts s pos hp
      unfold Lib.spansFromP
      rw [if_pos hp]
      cases hb : blankN (Utf8.decode s pos).1 with
      | true =>
        have hw := d4 hb
        rw [hb] at d1
        rw [if_pos rfl, hw, get_list s pos hp, wc, ← d1, if_pos rfl]
        cases st with
        | some a => rw [spans_count s f (pos + 1) none _ (by omega)]; simp [openN]
        | none => rw [spans_count s f (pos + 1) none _ (by omega)]; simp [openN]
      | false =>
        rw [hb] at d1
        rw [if_neg (by simp)]
        have hs := wc_skip s (Utf8.decode s pos).2 pos st.isSome d3 (fun j hj => by
          rcases Nat.eq_zero_or_pos j with rfl | hj0
          · rw [Nat.add_zero]; exact d1.symm
          · exact d5 j hj0 hj) d2
        rw [hs]
        cases st with
        | some a => rw [spans_count s f _ (some a) acc (by omega)]; simp [openN]
        | none => rw [spans_count s f _ (some pos) acc (by omega)]; simp [openN]; omega
    · rw [Lib.spansFromP_end _ _ _ _ _ _ (by omega), List.drop_of_length_le (by simp; omega)]
      simp [wc]

theorem fields_count (s : ByteArray) : (Lib.goFieldsP blankN s).length = wc false s.data.toList := by
  unfold Lib.goFieldsP Lib.spansOfP Lib.closeSpans
  rw [List.length_map]
  have h := spans_count s s.size 0 none [] (by omega)
  rw [List.drop_zero] at h
  cases e : (Lib.spansFromP blankN s s.size 0 none []).2 with
  | none => rw [e] at h; simpa [openN] using h
  | some a => rw [e] at h; simpa [openN] using h

theorem wc_join (l2 : List UInt8) : ∀ (l1 : List UInt8) (b : Bool), wc b (l1 ++ 10 :: l2) = wc b l1 + wc false l2
  | [], b => by simp [wc, blankN]
  | c :: l1, b => by
    rw [List.cons_append, wc, wc]
    split
    · exact wc_join l2 l1 false
    · rw [wc_join l2 l1 true]; omega

theorem wc_le : ∀ (l : List UInt8) (b : Bool), wc b l ≤ l.length
  | [], _ => by simp [wc]
  | c :: l, b => by
    rw [wc, List.length_cons]
    have h1 := wc_le l true
    have h2 := wc_le l false
    split
    · omega
    · split <;> omega

end Go.Proofs.YtbckpnioimhgcaaDoor.Ext

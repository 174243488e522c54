/- Proved: arith's tokens in plain Lean: each ends behind its place. No program's step. -/
import Derived.Test.YtlbgnpllbogkeaaDoorVkArRd
import Derived.Test.YtlbgnpllbogkeaaDoorVkName5
import Derived.Test.YtlbgnpllbogkeaaDoorVkLit
import Derived.Test.YtlbgnpllbogkeaaDoorVkQ2
set_option linter.unusedVariables false
set_option linter.unusedSimpArgs false
namespace Go.Proofs.YtlbgnpllbogkeaaDoor.Ext
open Go.RowKit Go.Proofs.YtlbgnpllbogkeaaDoorW.PrintWords
def blankB (c : UInt8) : Bool := c == 32 || c == 9 || c == 10
def partB (c : UInt8) : Bool := (Q.arith_part.f (c.toNat : Int)).getD false
theorem part_some (c : Int) : ∃ b, Q.arith_part.f c = some b := by
  unfold Q.arith_part.f
  repeat' split
  all_goals exact ⟨_, rfl⟩
def runL (p : UInt8 → Bool) (l : List UInt8) : Nat := (l.takeWhile p).length
theorem runL_le (p : UInt8 → Bool) (l : List UInt8) : runL p l ≤ l.length := (List.takeWhile_sublist p).length_le
theorem runL_step (p : UInt8 → Bool) {l : List UInt8} {i : Nat} (hi : i < l.length) : runL p (l.drop i) = if p l[i] = true then runL p (l.drop (i + 1)) + 1 else 0 := by
  rw [List.drop_eq_getElem_cons hi]
  unfold runL
  rw [List.takeWhile_cons]
  split <;> simp
def skipF (s : ByteArray) (i : Nat) : Nat := i + runL blankB (s.data.toList.drop i)
theorem skip_le (s : ByteArray) (i : Nat) (hi : i ≤ s.size) : i ≤ skipF s i ∧ skipF s i ≤ s.size := by
  have h1 := runL_le blankB (s.data.toList.drop i)
  rw [List.length_drop, ← Lib.size_eq] at h1
  unfold skipF
  omega
def wordF (s : ByteArray) : ByteArray := s.extract 0 (runL partB s.data.toList)
def nameOf (w : ByteArray) : Bool := (octets_Name.f w).getD false
def litOf (w : ByteArray) : Int × Int := (number_Literal.f w).getD (0, 33)
def litV (w : ByteArray) : Int := (litOf w).1
def signsL : List ByteArray := [⟨#[60, 60, 61]⟩, ⟨#[62, 62, 61]⟩, ⟨#[42, 42]⟩, ⟨#[43, 43]⟩, ⟨#[45, 45]⟩, ⟨#[60, 60]⟩, ⟨#[62, 62]⟩, ⟨#[60, 61]⟩, ⟨#[62, 61]⟩, ⟨#[61, 61]⟩, ⟨#[33, 61]⟩, ⟨#[38, 38]⟩, ⟨#[124, 124]⟩, ⟨#[42, 61]⟩, ⟨#[47, 61]⟩, ⟨#[37, 61]⟩, ⟨#[43, 61]⟩, ⟨#[45, 61]⟩, ⟨#[38, 61]⟩, ⟨#[94, 61]⟩, ⟨#[124, 61]⟩, ⟨#[42]⟩, ⟨#[47]⟩, ⟨#[37]⟩, ⟨#[43]⟩, ⟨#[45]⟩, ⟨#[60]⟩, ⟨#[62]⟩, ⟨#[61]⟩, ⟨#[33]⟩, ⟨#[126]⟩, ⟨#[38]⟩, ⟨#[94]⟩, ⟨#[124]⟩, ⟨#[63]⟩, ⟨#[58]⟩, ⟨#[44]⟩, ⟨#[40]⟩, ⟨#[41]⟩]
def bashesL : List ByteArray := [⟨#[42, 42]⟩, ⟨#[43, 43]⟩, ⟨#[45, 45]⟩]
def signOk (s : ByteArray) (bash : Bool) (a : Nat) (g : ByteArray) : Bool := Lib.hasPrefix (s.extract a s.size).data.toList g.data.toList && (bash || !inL bashesL g)
def signGo (s : ByteArray) (bash : Bool) (a : Nat) : List ByteArray → Tok
  | [] => ⟨4, em, a, a + 1⟩
  | g :: l => if signOk s bash a g = true then ⟨3, g, a, a + g.size⟩ else signGo s bash a l
/-- Where the word begins: behind a $. -/
def dollarB (s : ByteArray) (a : Nat) : Bool := Lib.hasPrefix (s.extract a s.size).data.toList [36]
def restF (s : ByteArray) (a : Nat) : ByteArray := ⟨(Lib.trimPrefix (s.extract a s.size).data.toList [36]).toArray⟩
def nextF (s : ByteArray) (bash : Bool) (i : Nat) : Tok :=
  if skipF s i = s.size then ⟨0, em, skipF s i, skipF s i⟩
  else if nameOf (wordF (restF s (skipF s i))) = true then ⟨2, wordF (restF s (skipF s i)), skipF s i, s.size - (restF s (skipF s i)).size + (wordF (restF s (skipF s i))).size⟩
  else if (!dollarB s (skipF s i) && (litOf (wordF (restF s (skipF s i)))).2 == 0) = true then ⟨1, wordF (restF s (skipF s i)), skipF s i, s.size - (restF s (skipF s i)).size + (wordF (restF s (skipF s i))).size⟩
  else if (dollarB s (skipF s i) || !((wordF (restF s (skipF s i))).size == 0)) = true then ⟨4, wordF (restF s (skipF s i)), skipF s i, s.size - (restF s (skipF s i)).size + (wordF (restF s (skipF s i))).size⟩
  else signGo s bash (skipF s i) signsL
theorem word_size (r : ByteArray) : (wordF r).size = runL partB r.data.toList := by
  unfold wordF
  rw [ByteArray.size_extract, Nat.sub_zero]
  have := runL_le partB r.data.toList
  rw [← Lib.size_eq] at this
  omega
theorem word_le (r : ByteArray) : (wordF r).size ≤ r.size := by
  rw [word_size]
  have := runL_le partB r.data.toList
  rw [← Lib.size_eq] at this
  exact this
theorem tail_len (s : ByteArray) (a : Nat) : (s.extract a s.size).data.toList.length = s.size - a := by
  rw [← Lib.size_eq, ByteArray.size_extract, Nat.min_self]
theorem rest_size (s : ByteArray) (a : Nat) : (restF s a).size = s.size - a - (if dollarB s a = true then 1 else 0) := by
  unfold restF dollarB Lib.trimPrefix
  rw [Lib.size_eq]
  have h := tail_len s a
  split
  · simp only [List.toList_toArray, List.length_drop, List.length_singleton]
    omega
  · simp only [List.toList_toArray]
    omega
theorem dollar_lt {s : ByteArray} {a : Nat} (h : dollarB s a = true) : a < s.size := by
  unfold dollarB Lib.hasPrefix at h
  have h1 := (List.isPrefixOf_iff_prefix.1 h).length_le
  rw [tail_len, List.length_singleton] at h1
  omega
theorem name_pos {w : ByteArray} (h : nameOf w = true) : 0 < w.size := by
  unfold nameOf octets_Name.f at h
  split at h
  · simp only [Option.getD_some, Bool.and_eq_true] at h
    have h2 := h.2.1
    unfold everyB at h2
    rcases Nat.eq_zero_or_pos w.size with h0 | h0
    · rw [decide_eq_true h0] at h2; cases h2
    · exact h0
  · cases h
theorem lit_pos {w : ByteArray} (h : ((litOf w).2 == 0) = true) : 0 < w.size := by
  rcases Nat.eq_zero_or_pos w.size with h0 | h0
  · exfalso
    unfold litOf number_Literal.f at h
    rw [if_pos (by omega), if_neg (by omega)] at h
    unfold number_digits.f at h
    rw [if_pos ⟨by decide, by decide, by omega⟩] at h
    have h1 : w.data.toList = [] := List.eq_nil_of_length_eq_zero (by rw [← Lib.size_eq]; exact h0)
    have h2 : w.toList.isEmpty = true := by rw [Lib.toList_data, h1]; rfl
    rw [h1, digitsGo, h2] at h
    simp [litTell] at h
  · exact h0
theorem sign_ok {s : ByteArray} {bash : Bool} {a : Nat} (ha : a < s.size) : ∀ (l : List ByteArray), (∀ g ∈ l, 0 < g.size ∧ g.size ≤ 16384) → a < (signGo s bash a l).to_ ∧ (signGo s bash a l).to_ ≤ s.size ∧ (signGo s bash a l).kind ≠ 0 ∧ (signGo s bash a l).text.size ≤ 16384
  | [], _ => ⟨Nat.lt_succ_self _, ha, (by decide : (4 : Nat) ≠ 0), (by decide : (0 : Nat) ≤ 16384)⟩
  | g :: l, h => by
    rw [signGo]
    split
    · rename_i hc
      unfold signOk at hc
      rw [Bool.and_eq_true] at hc
      have h1 := (List.isPrefixOf_iff_prefix.1 (show g.data.toList.isPrefixOf _ = true from hc.1)).length_le
      rw [tail_len, ← Lib.size_eq] at h1
      obtain ⟨h2, h3⟩ := h g List.mem_cons_self
      dsimp only
      exact ⟨by omega, by omega, by decide, h3⟩
    · exact sign_ok ha l (fun x hx => h x (List.mem_cons_of_mem _ hx))
theorem signs_fine : ∀ g ∈ signsL, 0 < g.size ∧ g.size ≤ 16384 := by decide
theorem next_nx (s : ByteArray) (bash : Bool) (hs : s.size ≤ 16384) : Nx (nextF s bash) s.size := by
  have key : ∀ i, i ≤ s.size → ((nextF s bash i).kind = 0 ∧ (nextF s bash i).to_ = s.size ∨ (nextF s bash i).kind ≠ 0 ∧ i < (nextF s bash i).to_ ∧ (nextF s bash i).to_ ≤ s.size) ∧ (nextF s bash i).text.size ≤ 16384 := by
    intro i hi
    obtain ⟨h1, h2⟩ := skip_le s i hi
    unfold nextF
    generalize skipF s i = a at *
    by_cases ha : a = s.size
    · rw [if_pos ha]
      exact ⟨.inl ⟨rfl, ha⟩, (by decide : (0 : Nat) ≤ 16384)⟩
    · rw [if_neg ha]
      have hr := rest_size s a
      have hw := word_le (restF s a)
      generalize restF s a = r at *
      generalize wordF r = w at *
      have hd := @dollar_lt s a
      by_cases hn : nameOf w = true
      · rw [if_pos hn]
        have := name_pos hn
        dsimp only
        split at hr <;> exact ⟨.inr ⟨by decide, by omega, by omega⟩, by omega⟩
      · rw [if_neg hn]
        by_cases hl : (!dollarB s a && (litOf w).2 == 0) = true
        · rw [if_pos hl]
          have := lit_pos (Bool.and_eq_true_iff.1 hl).2
          dsimp only
          split at hr <;> exact ⟨.inr ⟨by decide, by omega, by omega⟩, by omega⟩
        · rw [if_neg hl]
          by_cases hq : (dollarB s a || !(w.size == 0)) = true
          · rw [if_pos hq]
            dsimp only
            split at hr
            · rename_i hdd
              have := hd hdd
              exact ⟨.inr ⟨by decide, by omega, by omega⟩, by omega⟩
            · rename_i hdd
              have h0 : ¬ w.size = 0 := by
                intro e
                rw [e] at hq
                simp [hdd] at hq
              exact ⟨.inr ⟨by decide, by omega, by omega⟩, by omega⟩
          · rw [if_neg hq]
            obtain ⟨q1, q2, q3, q4⟩ := sign_ok (bash := bash) (show a < s.size by omega) signsL signs_fine
            exact ⟨.inr ⟨q3, by omega, q2⟩, q4⟩
  refine ⟨fun i hi hk => ?_, fun i hi hk => ?_, fun i hi => (key i hi).2⟩
  · rcases (key i hi).1 with h | h
    · exact absurd h.1 hk
    · exact h.2
  · rcases (key i hi).1 with h | h
    · exact h.2
    · exact absurd hk h.1
theorem litv_bounds : ∀ b, -9223372036854775808 ≤ litV b ∧ litV b ≤ 9223372036854775807 := by
  intro b
  unfold litV litOf
  cases h : number_Literal.f b with
  | none => exact ⟨by decide, by decide⟩
  | some p =>
    obtain ⟨n, e⟩ := p
    have key : ∀ o : Option (Int × Bool), litTell o = some (n, e) → -9223372036854775808 ≤ n ∧ n ≤ 9223372036854775807 := by
      intro o ho
      cases o with
      | none => cases ho
      | some q =>
        obtain ⟨m, b⟩ := q
        unfold litTell at ho
        have ho := Option.some.inj ho
        cases b with
        | false =>
          simp at ho
          omega
        | true =>
          simp at ho
          rw [← ho.1]
          unfold wrap64
          omega
    unfold number_Literal.f at h
    split at h
    · split at h
      · split at h <;> exact key _ h
      · exact key _ h
    · cases h
end Go.Proofs.YtlbgnpllbogkeaaDoor.Ext

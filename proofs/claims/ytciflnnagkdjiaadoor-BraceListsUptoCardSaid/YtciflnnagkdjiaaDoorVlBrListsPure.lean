/- Proved: the words of a list of letters in braces; the law's letters of a text. Plain Lean: no program's step. -/
import Derived.Test.YtciflnnagkdjiaaDoorVlBrAlive
import Derived.Test.YtciflnnagkdjiaaDoorVlP1
set_option linter.unusedVariables false
set_option linter.unusedSimpArgs false
namespace Go.Proofs.YtciflnnagkdjiaaDoor.Ext
open Go.RowKit Go.Proofs.YtciflnnagkdjiaaDoorW.PrintWords
def low (c : UInt8) : Bool := decide ((c.toNat : Int) ≥ 97) && decide ((c.toNat : Int) ≤ 122)
def lowL (s : ByteArray) : List UInt8 := s.data.toList.filter low
theorem low_plain {c : UInt8} (h : low c = true) : c ≠ 46 ∧ c ≠ 123 ∧ c ≠ 125 ∧ c ≠ 44 := by
  unfold low at h
  rw [Bool.and_eq_true, decide_eq_true_iff, decide_eq_true_iff] at h
  exact ⟨ne_of_nat (by show c.toNat ≠ 46; omega), ne_of_nat (by show c.toNat ≠ 123; omega), ne_of_nat (by show c.toNat ≠ 125; omega), ne_of_nat (by show c.toNat ≠ 44; omega)⟩
theorem lowL_plain (s : ByteArray) : ∀ c ∈ lowL s, c ≠ 46 ∧ c ≠ 123 ∧ c ≠ 125 ∧ c ≠ 44 := fun c hc => low_plain (List.mem_filter.1 hc).2
theorem bt_at2 (x : ByteArray) (i : Nat) (h : i < x.data.toList.length) : bt x ((i : Nat) : Int) = ((x.data.toList[i].toNat : Nat) : Int) := by
  have h2 : i < x.size := by rw [ba_size]; exact h
  rw [← bt_at x i (by rw [Int.toNat_natCast]; exact h2)]
  rfl
theorem letters_go (s : ByteArray) (hs : s.size < 140737488355328) : ∀ (r : List UInt8) (k i : Nat) (y : List Int), s.data.toList.drop i = r → i ≤ s.data.toList.length → r.length < k → y.length ≤ i →
    P.cowrielaw17_letters.l0 k s y (i : Int) = some (strOfNums (y ++ (r.filter low).map fun c => (c.toNat : Int)))
  | r, 0, _, _, _, _, hk, _ => absurd hk (Nat.not_lt_zero _)
  | [], k + 1, i, y, hd, hi, _, _ => by
    have hl : s.data.toList.length ≤ i := by
      have := congrArg List.length hd
      rw [List.length_drop, List.length_nil] at this
      omega
    rw [P.cowrielaw17_letters.l0, if_neg (by rw [ba_size]; omega)]
    simp
  | c :: r, k + 1, i, y, hd, hi, hk, hy => by
    have hlt : i < s.data.toList.length := by
      have := congrArg List.length hd
      rw [List.length_drop, List.length_cons] at this
      omega
    have hc : s.data.toList[i] = c := by
      have := List.drop_eq_getElem_cons hlt
      rw [hd] at this
      injection this with h1 h2
      exact h1.symm
    have hr : s.data.toList.drop (i + 1) = r := by
      have := List.drop_eq_getElem_cons hlt
      rw [hd] at this
      injection this with h1 h2
      exact h2.symm
    have hb : bt s (i : Int) = (c.toNat : Int) := by rw [bt_at2 s i hlt, hc]
    have hsz := ba_size s
    have hw : wrap64 ((i : Int) + 1) = ((i + 1 : Nat) : Int) := by
      rw [wrap64_small (by omega)]
      rfl
    rw [List.length_cons] at hk
    have ih1 := letters_go s hs r k (i + 1) (y ++ [(c.toNat : Int)]) hr (by omega) (by omega) (by rw [List.length_append, List.length_singleton]; omega)
    have ih2 := letters_go s hs r k (i + 1) y hr (by omega) (by omega) (by omega)
    rw [P.cowrielaw17_letters.l0, if_pos (by rw [hsz]; omega), if_pos (by omega), hb, hw, if_pos (show y.length < 140737488355328 by omega), ih1, ih2]
    have hf : (c :: r).filter low = if low c = true then c :: r.filter low else r.filter low := List.filter_cons
    rw [hf]
    by_cases h1 : (c.toNat : Int) ≥ 97
    · rw [if_pos h1]
      by_cases h2 : (c.toNat : Int) ≤ 122
      · rw [if_pos h2, if_pos (by unfold low; rw [decide_eq_true h1, decide_eq_true h2]; rfl), List.append_assoc]
        rfl
      · rw [if_neg h2, if_neg (by unfold low; rw [decide_eq_false h2, Bool.and_false]; decide)]
    · rw [if_neg h1, if_neg (by unfold low; rw [decide_eq_false h1, Bool.false_and]; decide)]
theorem letters_spec (s : ByteArray) (hs : s.size < 140737488355328) : P.cowrielaw17_letters.f (s.size + 1) s = some ⟨(lowL s).toArray⟩ := by
  have h := letters_go s hs s.data.toList (s.size + 1) 0 [] rfl (Nat.zero_le _) (by rw [ba_size]; omega) (Nat.le_refl _)
  unfold P.cowrielaw17_letters.f
  rw [show (0 : Int) = ((0 : Nat) : Int) from rfl, h, List.nil_append, strOf_map]
  rfl
theorem lowL_len (s : ByteArray) : (lowL s).length ≤ s.size := by
  rw [ba_size]
  exact List.length_filter_le _ _
def commasU : List (List UInt8) → List UInt8
  | [] => []
  | [x] => x
  | x :: y :: r => x ++ 44 :: commasU (y :: r)
theorem commasU_map : ∀ L : List (List UInt8), (commasU L).map ItemS.oct = commas (L.map (List.map ItemS.oct))
  | [] => rfl
  | [x] => rfl
  | x :: y :: r => by
    rw [commasU, List.map_append, List.map_cons, commasU_map (y :: r)]
    rfl
theorem commasU_snoc : ∀ (L : List (List UInt8)) (x : List UInt8), L ≠ [] → commasU (L ++ [x]) = commasU L ++ 44 :: x
  | [], _, h => absurd rfl h
  | [y], x, _ => rfl
  | y :: z :: r, x, _ => by
    have ih := commasU_snoc (z :: r) x (by simp)
    show y ++ 44 :: commasU ((z :: r) ++ [x]) = _
    rw [ih, commasU]
    simp
def listIn (a b : List UInt8) (L : List (List UInt8)) : ByteArray := ⟨(a ++ 123 :: (commasU L ++ 125 :: b)).toArray⟩
def plainL (l : List UInt8) : Prop := ∀ c ∈ l, c ≠ 46 ∧ c ≠ 123 ∧ c ≠ 125 ∧ c ≠ 44
theorem plain_tame {l : List UInt8} (h : plainL l) : ∀ x ∈ l.map ItemS.oct, tame x := octs_tame fun c hc => (h c hc).2
def listItems (a b : List UInt8) (L : List (List UInt8)) : List ItemS := a.map ItemS.oct ++ .oct 123 :: (commas (L.map (List.map ItemS.oct)) ++ .oct 125 :: b.map ItemS.oct)
theorem listIn_items (a b : List UInt8) (L : List (List UInt8)) : itemsP [textP (listIn a b L) false] = listItems a b L := by
  have hi : itemsP [textP (listIn a b L) false] = (a ++ 123 :: (commasU L ++ 125 :: b)).map ItemS.oct := items_text _
  rw [hi, List.map_append, List.map_cons, List.map_append, List.map_cons, commasU_map]
  rfl
/-- One word: of no octets it is quoted. -/
theorem word_or (l : List UInt8) : ∃ q, orQuoted (wordP (l.map ItemS.oct)) = [textP ⟨l.toArray⟩ q] := by
  cases l with
  | nil => exact ⟨true, rfl⟩
  | cons c l => exact ⟨false, by rw [word_octs (by simp)]; rfl⟩
def listWords (a b : List UInt8) (L : List (List UInt8)) : List (List PartS) := L.map fun x => orQuoted (wordP ((a ++ x ++ b).map ItemS.oct))
theorem list_words {a b : List UInt8} {L : List (List UInt8)} (ha : plainL a) (hb : plainL b) (hL : ∀ x ∈ L, plainL x) (h2 : 2 ≤ L.length) (h256 : L.length ≤ 256) : expandW 2 [textP (listIn a b L) false] = some (some (listWords a b L)) := by
  have hLi : ∀ x ∈ L.map (List.map ItemS.oct), ∀ c ∈ x, tame c := by
    intro x hx
    obtain ⟨y, hy, rfl⟩ := List.mem_map.1 hx
    exact plain_tame (hL y hy)
  have hf := found_list spanS (a.map ItemS.oct) (b.map ItemS.oct) (L.map (List.map ItemS.oct)) (by rw [List.length_map]; exact h2) (plain_tame ha) hLi
  have he := expand_list spanS 0 (a.map ItemS.oct) (b.map ItemS.oct) (L.map (List.map ItemS.oct)) (by rw [List.length_map]; exact h2) (by rw [List.length_map]; exact h256) (plain_tame ha) (plain_tame hb) hLi
  unfold expandW
  rw [listIn_items]
  unfold listItems
  rw [hf, Option.isSome_some, if_pos rfl, he]
  dsimp only
  congr 2
  unfold listWords
  rw [List.map_map, List.map_map]
  apply List.map_congr_left
  intro x _
  show orQuoted (wordP (a.map ItemS.oct ++ x.map ItemS.oct ++ b.map ItemS.oct)) = _
  rw [List.map_append, List.map_append]
theorem index_no : ∀ (l : List UInt8), (∀ c ∈ l, c ≠ 46) → Lib.index l [46, 46] = -1
  | [], _ => rfl
  | c :: l, h => by
    have hb : ((46 : UInt8) == c) = false := beq_eq_false_iff_ne.2 (fun e => h c List.mem_cons_self e.symm)
    rw [Lib.index, if_neg (by simp [List.isPrefixOf, hb]), index_no l (fun d hd => h d (List.mem_cons_of_mem _ hd)), if_pos (by decide)]
theorem span_none {l : List UInt8} (h : plainL l) : spanS (l.map ItemS.oct) = [] := by
  have ho : octs (l.map ItemS.oct) = l := by
    unfold octs
    rw [List.filterMap_map]
    exact List.filterMap_some
  have he : ends4 ⟨l.toArray⟩ = none := by
    unfold ends4 cutIs
    rw [show (⟨l.toArray⟩ : ByteArray).data.toList = l from by simp]
    have hc : (Lib.cut l [46, 46]).2.2 = false := by
      unfold Lib.cut
      rw [index_no l (fun c hc => (h c hc).1), if_neg (by decide)]
    rw [hc]
    unfold endsOf
    rw [if_neg (by decide)]
  unfold spanS
  split
  · unfold spanB
    rw [ho, he]
    split <;> rfl
  · rfl
theorem list_one {a b : List UInt8} {L : List (List UInt8)} (ha : plainL a) (hb : plainL b) (hL : ∀ x ∈ L, plainL x) (h2 : L.length < 2) : ∃ x, expandW 2 [textP (listIn a b L) false] = some (some [x]) := by
  have hx : ∃ x : List UInt8, plainL x ∧ commas (L.map (List.map ItemS.oct)) = x.map ItemS.oct := by
    match L, hL, h2 with
    | [], _, _ => exact ⟨[], fun c hc => absurd hc (by simp), rfl⟩
    | [x], hL, _ => exact ⟨x, hL x List.mem_cons_self, rfl⟩
  obtain ⟨x, hp, hx⟩ := hx
  have hf := found_one spanS (a.map ItemS.oct) (b.map ItemS.oct) (x.map ItemS.oct) (plain_tame ha) (plain_tame hb) (plain_tame hp) (span_none hp)
  unfold expandW
  rw [listIn_items]
  unfold listItems
  rw [hx, hf, if_neg (by decide)]
  exact ⟨_, rfl⟩
end Go.Proofs.YtciflnnagkdjiaaDoor.Ext

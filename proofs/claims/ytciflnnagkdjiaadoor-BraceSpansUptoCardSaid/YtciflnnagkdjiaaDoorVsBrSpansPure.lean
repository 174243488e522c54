/- Proved: the words of a span of two numbers below 100; the law's text of such a number. Plain Lean: no program's step. -/
import Derived.Test.YtciflnnagkdjiaaDoorVsBrAlive
import Derived.Test.YtciflnnagkdjiaaDoorVsP1
set_option linter.unusedVariables false
set_option linter.unusedSimpArgs false
namespace Go.Proofs.YtciflnnagkdjiaaDoor.Ext
open Go.RowKit Go.Proofs.YtciflnnagkdjiaaDoorW.PrintWords
def d2 (n : Nat) : List UInt8 := if n < 10 then [(48 + n).toUInt8] else [(48 + n / 10).toUInt8, (48 + n % 10).toUInt8]
theorem decs_two {n : Nat} (h : n < 100) : decs n = d2 n := by
  rw [decs]
  unfold d2
  by_cases c : n < 10
  · rw [if_pos c, if_pos c]
  · rw [if_neg c, if_neg c, decs, if_pos (by omega)]
    rfl
theorem text_all : ∀ n : Fin 100, (P.cowrielaw17_text.f 2 (n.val : Int)).map (fun s => s.data.toList) = some (d2 n.val) := of_decide_eq_true (by kernel_rfl)
theorem text_two {n : Nat} (h : n < 100) : P.cowrielaw17_text.f 2 (n : Int) = some ⟨(d2 n).toArray⟩ := by
  have := text_all ⟨n, h⟩
  dsimp only at this
  cases hf : P.cowrielaw17_text.f 2 (n : Int) with
  | none => rw [hf] at this; cases this
  | some s =>
    rw [hf] at this
    have e : s.data.toList = d2 n := Option.some.inj this
    congr 1
    apply ByteArray.ext
    dsimp only
    rw [← e]
theorem d2_all : ∀ n : Fin 100, (parseL (d2 n.val) = ((n.val : Int), 0) ∧ (d2 n.val).head? ≠ some 45 ∧ (d2 n.val).length ≤ 2 ∧ d2 n.val ≠ [] ∧ (d2 n.val).all (fun c => digitB c.toNat) = true ∧ (d2 n.val).all (fun c => c != 46 && c != 123 && c != 125 && c != 44) = true) := of_decide_eq_true (by kernel_rfl)
theorem d2_plain {n : Nat} (h : n < 100) : ∀ c ∈ d2 n, c ≠ 46 ∧ c ≠ 123 ∧ c ≠ 125 ∧ c ≠ 44 := by
  intro c hc
  have := List.all_eq_true.1 (d2_all ⟨n, h⟩).2.2.2.2.2 c hc
  simpa [Bool.and_eq_true, and_assoc] using this
theorem bound_two {n : Nat} (h : n < 100) : boundB ⟨(d2 n).toArray⟩ = ((n : Int), true) := by
  obtain ⟨h1, h2, h3, h4, h5, _⟩ := d2_all ⟨n, h⟩
  dsimp only at h1 h2 h3 h4 h5
  have hs : (⟨(d2 n).toArray⟩ : ByteArray).size = (d2 n).length := by rw [ba_size]
  have hdt : (⟨(d2 n).toArray⟩ : ByteArray).data.toList = d2 n := by simp
  unfold boundB R.brace_bound.f
  rw [trim_one_pre, hdt, if_neg h2, Option.bind_some]
  unfold octets_Digits.f
  rw [if_pos (by rw [hs]; omega), Option.bind_some]
  have he : everyB digitB ⟨(d2 n).toArray⟩ = true := by
    unfold everyB
    rw [hdt, hs, h5, Bool.and_true, decide_eq_false (fun e => h4 (List.length_eq_zero_iff.1 e))]
    rfl
  rw [he, if_pos rfl, if_neg (by rw [hs]; omega), parse_spec _ (by rw [hs]; omega), hdt, h1]
  rfl
theorem index_dots : ∀ (x y : List UInt8), (∀ c ∈ x, c ≠ 46) → Lib.index (x ++ 46 :: 46 :: y) [46, 46] = x.length
  | [], y, _ => by
    rw [List.nil_append, Lib.index, if_pos (by simp [List.isPrefixOf])]
    rfl
  | c :: x, y, h => by
    have ih := index_dots x y (fun d hd => h d (List.mem_cons_of_mem _ hd))
    have hc : c ≠ 46 := h c List.mem_cons_self
    have hb : ((46 : UInt8) == c) = false := beq_eq_false_iff_ne.2 (fun e => hc e.symm)
    rw [List.cons_append, Lib.index, if_neg (by simp [List.isPrefixOf, hb]), ih, if_neg (by intro e; have := eq_of_beq e; omega), List.length_cons]
    omega
theorem cut_dots (x y : List UInt8) (h : ∀ c ∈ x, c ≠ 46) : Lib.cut (x ++ 46 :: 46 :: y) [46, 46] = (x, y, true) := by
  unfold Lib.cut
  rw [index_dots x y h, if_pos (Int.natCast_nonneg _), Int.toNat_natCast, List.take_left]
  congr 2
  rw [List.drop_append, List.drop_of_length_le (by omega), List.nil_append, Nat.add_sub_cancel_left]
  rfl
def spanText (a b : Nat) : List UInt8 := d2 a ++ 46 :: 46 :: d2 b
theorem ends_two {a b : Nat} (ha : a < 100) (hb : b < 100) : ends4 ⟨(spanText a b).toArray⟩ = some ((a : Int), (b : Int), false) := by
  have hc := cut_dots (d2 a) (d2 b) (fun c hc => (d2_plain ha c hc).1)
  unfold ends4 cutL cutR cutIs
  rw [show (⟨(spanText a b).toArray⟩ : ByteArray).data.toList = d2 a ++ 46 :: 46 :: d2 b from by simp [spanText], hc]
  unfold endsOf
  rw [if_pos rfl]
  dsimp only
  rw [bound_two ha, bound_two hb, if_pos ⟨rfl, rfl⟩]
/-- How many steps, and the number at one. -/
def steps (a b : Nat) : Nat := if b < a then a - b else b - a
def at2 (a b i : Nat) : Nat := if b < a then a - i else a + i
theorem at2_lt {a b i : Nat} (ha : a < 100) (hb : b < 100) (hi : i ≤ steps a b) : at2 a b i < 100 := by
  unfold at2 steps at *
  split at hi <;> rename_i c <;> simp only [c, if_true, if_false] <;> omega
theorem spanGo_all (a b : Nat) (ha : a < 100) (hb : b < 100) : ∀ (n i k : Nat), i + n = steps a b → n < k → spanGo false (b : Int) (if (b : Int) < a then -1 else 1) k (at2 a b i : Nat) = (List.range (n + 1)).map fun j => (d2 (at2 a b (i + j))).map ItemS.oct
  | n, i, 0, _, hk => absurd hk (Nat.not_lt_zero _)
  | 0, i, k + 1, hi, _ => by
    have hl := at2_lt (i := i) ha hb (by omega)
    have e : at2 a b i = b := by
      unfold at2 steps at *
      split at hi <;> rename_i c <;> simp only [c, if_true, if_false] <;> omega
    have hr : rowText false ((at2 a b i : Nat) : Int) = d2 (at2 a b i) := by
      unfold rowText decsInt
      rw [if_neg (by decide), if_neg (by omega), Int.natAbs_natCast, decs_two hl]
    rw [spanGo, hr, if_pos (by rw [e])]
    simp
  | n + 1, i, k + 1, hi, hk => by
    have hl := at2_lt (i := i) ha hb (by omega)
    have e : ((at2 a b i : Nat) : Int) ≠ b ∧ ((at2 a b i : Nat) : Int) + (if (b : Int) < a then -1 else 1) = ((at2 a b (i + 1) : Nat) : Int) := by
      unfold at2 steps at *
      by_cases c : b < a
      · simp only [if_pos c, if_pos (show (b : Int) < a by omega)] at *
        omega
      · simp only [if_neg c, if_neg (show ¬ (b : Int) < a by omega)] at *
        omega
    have hr : rowText false ((at2 a b i : Nat) : Int) = d2 (at2 a b i) := by
      unfold rowText decsInt
      rw [if_neg (by decide), if_neg (by omega), Int.natAbs_natCast, decs_two hl]
    rw [spanGo, hr, if_neg e.1, e.2, spanGo_all a b ha hb n (i + 1) k (by omega) (by omega), List.range_succ_eq_map (n := n + 1), List.map_cons, List.map_map]
    congr 1
    apply List.map_congr_left
    intro j _
    show _ = (d2 (at2 a b (i + (j + 1)))).map ItemS.oct
    rw [show i + (j + 1) = i + 1 + j by omega]
theorem octs_map (l : List UInt8) : octs (l.map ItemS.oct) = l := by
  unfold octs
  rw [List.filterMap_map]
  exact List.filterMap_some
theorem noParts (l : List UInt8) : (l.map ItemS.oct).any isPart = false := by
  rw [List.any_map, List.any_eq_false]
  intro c _
  simp [isPart]
def spanRows (a b : Nat) : List (List ItemS) := (List.range (steps a b + 1)).map fun j => (d2 (at2 a b j)).map ItemS.oct
theorem steps_lt {a b : Nat} (ha : a < 100) (hb : b < 100) : steps a b < 100 := by
  unfold steps
  split <;> omega
theorem spanS_two {a b : Nat} (ha : a < 100) (hb : b < 100) : spanS ((spanText a b).map ItemS.oct) = spanRows a b := by
  have h1 := (d2_all ⟨a, ha⟩).2.2.1
  have h2 := (d2_all ⟨b, hb⟩).2.2.1
  dsimp only at h1 h2
  have hlt := steps_lt ha hb
  unfold spanS
  rw [if_pos (by rw [List.length_map]; unfold spanText; rw [List.length_append, List.length_cons, List.length_cons]; omega)]
  unfold spanB
  rw [noParts, if_neg (by decide), octs_map, ends_two ha hb]
  dsimp only
  have := spanGo_all a b ha hb (steps a b) 0 257 (by omega) (by omega)
  have e0 : at2 a b 0 = a := by unfold at2; split <;> omega
  rw [e0] at this
  rw [this]
  unfold spanRows
  apply List.map_congr_left
  intro j _
  rw [Nat.zero_add]
def spanIn (a b : Nat) : ByteArray := ⟨(123 :: (spanText a b ++ [125])).toArray⟩
def spanWords (a b : Nat) : List (List PartS) := (List.range (steps a b + 1)).map fun j => [textP ⟨(d2 (at2 a b j)).toArray⟩ false]
theorem found_span (sp : SpanF) (x : List ItemS) (q : List (List ItemS)) (hx : ∀ c ∈ x, tame c) (hsp : sp x = q) (h1 : 1 ≤ q.length) : (foundF sp (.oct 123 :: (x ++ [.oct 125]))).isSome = true := by
  have hp := pieces_commas [x] 0 [] [] (by simp) (fun y hy => by rw [List.mem_singleton.1 hy]; exact hx)
  have hs : subL (x ++ [.oct 125]) (0, x.length) = x := by
    unfold subL
    dsimp only
    rw [List.take_left, List.drop_zero]
  rw [List.nil_append, Nat.zero_add] at hp
  unfold foundF
  rw [foundGo, if_pos (show isB (.oct 123) 123 = true from rfl)]
  unfold foundAt piecesP
  rw [List.drop_succ_cons, List.drop_zero, show x ++ [.oct 125] = commas [x] ++ .oct 125 :: [] from rfl, hp]
  dsimp only
  rw [if_pos (show (ends [x] 0).length = 1 from rfl), show (ends [x] 0).getD 0 (0, 0) = (0, x.length) from by simp [ends], show commas [x] ++ .oct 125 :: [] = x ++ [.oct 125] from rfl, hs, hsp]
  rw [if_neg (by omega)]
  rfl
theorem span_words {a b : Nat} (ha : a < 100) (hb : b < 100) : expandW 2 [textP (spanIn a b) false] = some (some (spanWords a b)) := by
  have hi : itemsP [textP (spanIn a b) false] = (123 :: (spanText a b ++ [125])).map ItemS.oct := items_text (123 :: (spanText a b ++ [125]))
  have hl : ((123 :: (spanText a b ++ [125])).map ItemS.oct : List ItemS) = .oct 123 :: ((spanText a b).map ItemS.oct ++ [.oct 125]) := by
    rw [List.map_cons, List.map_append]
    rfl
  have hx : ∀ x ∈ (spanText a b).map ItemS.oct, tame x := octs_tame (fun c hc => by
    unfold spanText at hc
    rcases List.mem_append.1 hc with hc | hc
    · exact (d2_plain ha c hc).2
    · rcases List.mem_cons.1 hc with rfl | hc
      · decide
      · rcases List.mem_cons.1 hc with rfl | hc
        · decide
        · exact (d2_plain hb c hc).2)
  have hn : (spanRows a b).length = steps a b + 1 := by unfold spanRows; rw [List.length_map, List.length_range]
  have hlt := steps_lt ha hb
  have hq : ∀ y ∈ spanRows a b, ∀ c ∈ y, tame c := by
    intro y hy
    unfold spanRows at hy
    obtain ⟨j, hj, rfl⟩ := List.mem_map.1 hy
    exact octs_tame (fun c hc => (d2_plain (at2_lt ha hb (by have := List.mem_range.1 hj; omega)) c hc).2)
  have hf := found_span spanS ((spanText a b).map ItemS.oct) (spanRows a b) hx (spanS_two ha hb) (by omega)
  have he := expand_span spanS 0 ((spanText a b).map ItemS.oct) (spanRows a b) hx (spanS_two ha hb) (by omega) (by omega) hq
  unfold expandW
  rw [hi, hl, hf, if_pos rfl, he]
  dsimp only
  congr 2
  unfold spanRows spanWords
  rw [List.map_map]
  apply List.map_congr_left
  intro j hj
  have hd := (d2_all ⟨at2 a b j, at2_lt ha hb (by have := List.mem_range.1 hj; omega)⟩).2.2.2.1
  show orQuoted (wordP ((d2 (at2 a b j)).map ItemS.oct)) = _
  rw [word_octs hd]
  rfl
theorem spanWords_at {a b j : Nat} (h : j < steps a b + 1) : (spanWords a b)[j]? = some [textP ⟨(d2 (at2 a b j)).toArray⟩ false] := by
  unfold spanWords
  rw [List.getElem?_map, List.getElem?_range h]
  rfl
theorem spanWords_len (a b : Nat) : (spanWords a b).length = steps a b + 1 := by
  unfold spanWords
  rw [List.length_map, List.length_range]
end Go.Proofs.YtciflnnagkdjiaaDoor.Ext

/- Proved: what chapter 10's functions answer, the program's and the page's, by one plain function each. Conditions: a tree that fits, texts of at most 2 to the 20 octets. -/
import Derived.Test.YtdfddiehiiaepaaGreatDoorVsQ2
import Derived.Test.YtdfddiehiiaepaaGreatDoorVsQ3
import Derived.Test.YtdfddiehiiaepaaGreatDoorVsEval
import Derived.Test.YtdfddiehiiaepaaGreatDoorVsRefList
import Derived.Test.YtdfddiehiiaepaaGreatDoorVsParseRef
set_option linter.unusedVariables false
set_option linter.unusedSimpArgs false
namespace Go.Proofs.YtdfddiehiiaepaaGreatDoor.PureT10
open Go.RowKit Go.Proofs.YtdfddiehiiaepaaGreatDoor.P Go.Proofs.YtdfddiehiiaepaaGreatDoor.Q Go.Proofs.YtdfddiehiiaepaaGreatDoor.PureT7 Go.Proofs.YtdfddiehiiaepaaGreatDoor.Ext Go.Proofs.YtdfddiehiiaepaaGreatDoorW.PrintWords
def st (b : Bool) : Int := if b = true then 0 else 1
theorem st_of (b : Bool) : test_status.f b = some (st b) := by cases b <;> rfl
theorem st_ref (b : Bool) : cowrieref10_status.f b = some (st b) := by cases b <;> rfl
theorem ne_emp (l : List UInt8) : (l != []) = !l.isEmpty := by cases l <;> rfl
theorem eq_emp (l : List UInt8) : (l == []) = l.isEmpty := by cases l <;> rfl
/-- A status. -/
def St3 (n : Int) : Prop := n = 0 ∨ n = 1 ∨ n = 2
theorem st3 (b : Bool) : St3 (st b) := by cases b <;> simp [St3, st]
def anyB (l : List ByteArray) (s : ByteArray) : Bool := l.any fun x => x.toList == s.toList
theorem any_cons (x : ByteArray) (l : List ByteArray) (s : ByteArray) : anyB (x :: l) s = (x.toList == s.toList || anyB l s) := rfl
theorem rd_at10 (l : List ByteArray) (i : Nat) (h : i < l.length) : rdOf ByteArray.empty l (i : Int) = l[i] := by
  unfold rdOf
  rw [Int.toNat_natCast, List.getD_eq_getElem?_getD, List.getElem?_eq_getElem h]
  rfl
theorem index_spec (l : List ByteArray) (s : ByteArray) (hl : l.length ≤ 1000) : ∀ (k i : Nat), i ≤ l.length → l.length < i + k → ∃ r : Int, R.slices_Index_string_string.l0 k l s (l.length : Int) (i : Int) = some r ∧ decide (r ≥ 0) = anyB (l.drop i) s
  | 0, i, h1, h2 => by omega
  | k + 1, i, h1, h2 => by
    rw [R.slices_Index_string_string.l0]
    by_cases h : i < l.length
    · rw [if_pos (by omega), if_pos (by omega), if_pos (by omega), rd_at10 l i h, List.drop_eq_getElem_cons h, any_cons]
      by_cases he : s.toList = l[i].toList
      · rw [if_pos he]
        refine ⟨i, rfl, ?_⟩
        rw [he, beq_self_eq_true, Bool.true_or]
        exact decide_eq_true (by omega)
      · rw [if_neg he, w1 i (by omega), beq_eq_false_iff_ne.2 (fun e => he e.symm), Bool.false_or]
        exact index_spec l s hl k (i + 1) (by omega) (by omega)
    · rw [if_neg (by omega), List.drop_of_length_le (by omega)]
      exact ⟨-1, rfl, rfl⟩
theorem in_spec (set s : ByteArray) (L : List ByteArray) (hL : wordsOf set = L) (h : set.data.toList.all (fun c => decide (c.toNat < 128)) = true ∧ set.size ≤ 200) (hl : L.length ≤ 100) (hne : anyB L ⟨#[]⟩ = false) : test_in.f set s = some (anyB L s) := by
  unfold test_in.f
  rw [hL, if_pos ⟨h.1, h.2, hl⟩]
  by_cases h0 : s.size = 0
  · rw [if_pos h0]
    have : s = ⟨#[]⟩ := toB (List.eq_nil_of_length_eq_zero (by rw [← Lib.size_eq]; exact h0))
    rw [this, hne]
  · rw [if_neg h0]
    obtain ⟨r, h1, h2⟩ := index_spec L s (by omega) 200 0 (by omega) (by omega)
    unfold R.slices_Contains_string_string.f R.slices_Index_string_string.f
    rw [show ((0 : Nat) : Int) = 0 from rfl] at h1
    rw [h1, Option.bind_some, h2, List.drop_zero]
theorem in_ref (l : List ByteArray) (s : ByteArray) (hl : l.length ≤ 1000) : ∀ (d i K : Nat), i + d = l.length → d + 1 ≤ K → cowrieref01_In.l0 K l s (i : Int) = some (anyB (l.drop i) s)
  | 0, i, K, hd, hK => by
    obtain ⟨K, rfl⟩ : ∃ k, K = k + 1 := ⟨K - 1, by omega⟩
    rw [cowrieref01_In.l0, if_neg (by omega), List.drop_of_length_le (by omega)]
    rfl
  | d + 1, i, K, hd, hK => by
    obtain ⟨K, rfl⟩ : ∃ k, K = k + 1 := ⟨K - 1, by omega⟩
    have h : i < l.length := by omega
    rw [cowrieref01_In.l0, if_pos (by omega), if_pos (by omega), rd_at10 l i h, List.drop_eq_getElem_cons h, any_cons]
    by_cases he : l[i].toList = s.toList
    · rw [if_pos he, he, beq_self_eq_true, Bool.true_or]
    · rw [if_neg he, w1 i (by omega), beq_eq_false_iff_ne.2 he, Bool.false_or]
      exact in_ref l s hl d (i + 1) K (by omega) (by omega)
def LU : List ByteArray := [⟨#[45, 110]⟩, ⟨#[45, 122]⟩, ⟨#[45, 101]⟩, ⟨#[45, 102]⟩, ⟨#[45, 100]⟩, ⟨#[45, 115]⟩]
def LT : List ByteArray := [⟨#[61]⟩, ⟨#[33, 61]⟩]
def LN : List ByteArray := [⟨#[45, 101, 113]⟩, ⟨#[45, 110, 101]⟩, ⟨#[45, 108, 116]⟩, ⟨#[45, 108, 101]⟩, ⟨#[45, 103, 116]⟩, ⟨#[45, 103, 101]⟩]
theorem in_LU (s : ByteArray) : test_in.f ⟨#[45, 110, 32, 45, 122, 32, 45, 101, 32, 45, 102, 32, 45, 100, 32, 45, 115]⟩ s = some (anyB LU s) := in_spec _ s LU (by decide +kernel) (by decide +kernel) (by decide) (by decide +kernel)
theorem in_LT (s : ByteArray) : test_in.f ⟨#[61, 32, 33, 61]⟩ s = some (anyB LT s) := in_spec _ s LT (by decide +kernel) (by decide +kernel) (by decide) (by decide +kernel)
theorem in_LN (s : ByteArray) : test_in.f ⟨#[45, 101, 113, 32, 45, 110, 101, 32, 45, 108, 116, 32, 45, 108, 101, 32, 45, 103, 116, 32, 45, 103, 101]⟩ s = some (anyB LN s) := in_spec _ s LN (by decide +kernel) (by decide +kernel) (by decide) (by decide +kernel)
theorem unary_some (s : ByteArray) : test_Unary.f s = some (anyB LU s) := by
  unfold test_Unary.f
  rw [in_LU, Option.bind_some]
theorem unary_ref (s : ByteArray) (K : Nat) (hK : 100 ≤ K) : cowrieref10_Unary.f K s = some (anyB LU s) := by
  have h := in_ref LU s (by decide) 6 0 K rfl (by omega)
  unfold cowrieref10_Unary.f cowrieref01_In.f
  have h' : cowrieref01_In.l0 K LU s 0 = some (anyB LU s) := h
  unfold LU at h' ⊢
  rw [h', Option.bind_some]
def isB (s : ByteArray) : Bool := anyB LT s || anyB LN s
theorem binary_some (s : ByteArray) : test_Binary.f s = some (isB s) := by
  unfold test_Binary.f isB
  rw [in_LT, Option.bind_some, in_LN]
  cases anyB LT s
  · rfl
  · rfl
theorem binary_ref (s : ByteArray) (K : Nat) (hK : 100 ≤ K) : cowrieref10_Binary.f K s = some (isB s) := by
  have h := in_ref (LT ++ LN) s (by decide) 8 0 K rfl (by omega)
  have h' : cowrieref01_In.l0 K (LT ++ LN) s 0 = some (isB s) := by
    refine Eq.trans h ?_
    unfold isB anyB
    rw [List.drop_zero, List.any_append]
  unfold cowrieref10_Binary.f cowrieref01_In.f
  unfold LT LN at h'
  exact (congrArg (fun o : Option Bool => o.bind fun t => some t) h').trans rfl
def singleB (op s : ByteArray) (t : List S73) : Int :=
  if op.toList = [45, 110] then st (!s.toList.isEmpty) else if op.toList = [45, 122] then st s.toList.isEmpty else if op.toList = [45, 101] then st (decide (kindB t s > 0)) else if op.toList = [45, 102] then st (kindB t s == 1) else if op.toList = [45, 100] then st (kindB t s == 2) else if op.toList = [45, 115] then st (!(getB t s).1.toList.isEmpty) else 2
theorem single3 (op s : ByteArray) (t : List S73) : St3 (singleB op s t) := by
  unfold singleB
  repeat' split
  all_goals first | exact st3 _ | exact .inr (.inr rfl)
theorem single_none (op s : ByteArray) (t : List S73) (h : anyB LU op = false) : singleB op s t = 2 := by
  simp only [LU, anyB, List.any_cons, List.any_nil, Bool.or_false, Bool.or_eq_false_iff, beq_eq_false_iff_ne] at h
  obtain ⟨h1, h2, h3, h4, h5, h6⟩ := h
  unfold singleB
  rw [if_neg (fun e => h1 (by rw [e]; decide +kernel)), if_neg (fun e => h2 (by rw [e]; decide +kernel)), if_neg (fun e => h3 (by rw [e]; decide +kernel)), if_neg (fun e => h4 (by rw [e]; decide +kernel)), if_neg (fun e => h5 (by rw [e]; decide +kernel)), if_neg (fun e => h6 (by rw [e]; decide +kernel))]
theorem single_some (op s : ByteArray) (t : List S73) (ht : fitsT t = true) (hs : s.size ≤ 1048576) : test_Single.f op s t = some (singleB op s t) := by
  unfold test_Single.f singleB
  simp only [st_of, Option.bind_some, kind_some ht (show s.size ≤ 1099511627776 by omega), get_some ht (show s.size ≤ 1099511627776 by omega), ne_emp, eq_emp]
  by_cases h1 : op.toList = [45, 110]
  · rw [if_pos h1, if_pos h1]
  rw [if_neg h1, if_neg h1]
  by_cases h2 : op.toList = [45, 122]
  · rw [if_pos h2, if_pos h2]
  rw [if_neg h2, if_neg h2]
  by_cases h3 : op.toList = [45, 101]
  · rw [if_pos h3, if_pos h3]
  rw [if_neg h3, if_neg h3]
  by_cases h4 : op.toList = [45, 102]
  · rw [if_pos h4, if_pos h4]
  rw [if_neg h4, if_neg h4]
  by_cases h5 : op.toList = [45, 100]
  · rw [if_pos h5, if_pos h5]
  rw [if_neg h5, if_neg h5]
  by_cases h6 : op.toList = [45, 115]
  · rw [if_pos h6, if_pos h6]
  rw [if_neg h6, if_neg h6]
theorem kindB_cases (t : List S73) (p : ByteArray) : kindB t p = 0 ∨ kindB t p = 1 ∨ kindB t p = 2 := by
  unfold kindB
  split
  · exact kind_cases t _
  · simp
/-- What has octets is a file. -/
theorem get_file {t : List S73} {p : ByteArray} (h : (getB t p).1.toList.isEmpty = false) : kindB t p = 1 := by
  unfold getB at h
  unfold kindB
  split at h
  · rename_i h0
    rw [if_pos h0]
    split at h
    · rw [Lib.toList_data] at h
      cases h
    · rename_i h1
      split at h
      · rw [Lib.toList_data] at h
        cases h
      · rename_i h2
        rcases kind_cases t (askB t p).1 with h3 | h3 | h3
        · exact absurd h3 h1
        · exact h3
        · exact absurd h3 h2
  · rw [Lib.toList_data] at h
    cases h
theorem single_ref (op s : ByteArray) (t : List S73) (ht : fitsT t = true) (hs : s.size ≤ 1048576) (K : Nat) (hK : 9000000000000 ≤ K) : cowrieref10_Single.f K op s t = some (singleB op s t) := by
  unfold cowrieref10_Single.f singleB
  simp only [ref_kindK t ht s hs K hK, ref_get t ht s hs K hK, st_ref, Option.bind_some, ne_emp, eq_emp]
  have hk := kindB_cases t s
  have hg := @get_file t s
  by_cases h1 : op.toList = [45, 110]
  · rw [if_pos h1, if_pos h1]
  rw [if_neg h1, if_neg h1]
  by_cases h2 : op.toList = [45, 122]
  · rw [if_pos h2, if_pos h2]
  rw [if_neg h2, if_neg h2]
  by_cases h3 : op.toList = [45, 101]
  · rw [if_pos h3, if_pos h3]
    rcases hk with hk | hk | hk <;> rw [hk] <;> rfl
  rw [if_neg h3, if_neg h3]
  by_cases h4 : op.toList = [45, 102]
  · rw [if_pos h4, if_pos h4]
  rw [if_neg h4, if_neg h4]
  by_cases h5 : op.toList = [45, 100]
  · rw [if_pos h5, if_pos h5]
  rw [if_neg h5, if_neg h5]
  by_cases h6 : op.toList = [45, 115]
  · rw [if_pos h6, if_pos h6]
    by_cases h7 : kindB t s = 1
    · rw [if_pos h7]
    · rw [if_neg h7]
      cases h8 : (getB t s).1.toList.isEmpty
      · exact absurd (hg h8) h7
      · rfl
  rw [if_neg h6, if_neg h6]
def orderB (op : ByteArray) (x y : Int) : Bool :=
  if op.toList = [45, 101, 113] then x == y else if op.toList = [45, 110, 101] then x != y else if op.toList = [45, 108, 116] then decide (x < y) else if op.toList = [45, 108, 101] then decide (x ≤ y) else if op.toList = [45, 103, 116] then decide (x > y) else decide (x ≥ y)
theorem order_some (op : ByteArray) (x y : Int) : test_order.f op x y = some (orderB op x y) := by
  unfold test_order.f orderB
  by_cases h1 : op.toList = [45, 101, 113]
  · rw [if_pos h1, if_pos h1]
  rw [if_neg h1, if_neg h1]
  by_cases h2 : op.toList = [45, 110, 101]
  · rw [if_pos h2, if_pos h2]
  rw [if_neg h2, if_neg h2]
  by_cases h3 : op.toList = [45, 108, 116]
  · rw [if_pos h3, if_pos h3]
  rw [if_neg h3, if_neg h3]
  by_cases h4 : op.toList = [45, 108, 101]
  · rw [if_pos h4, if_pos h4]
  rw [if_neg h4, if_neg h4]
  by_cases h5 : op.toList = [45, 103, 116]
  · rw [if_pos h5, if_pos h5]
  rw [if_neg h5, if_neg h5]
def bothB (a op b : ByteArray) : Int :=
  if op.toList = [61] then st (a.toList == b.toList) else if op.toList = [33, 61] then st (a.toList != b.toList) else
    if anyB LN op = true then (if (parseL a.data.toList).2 = 0 then (if (parseL b.data.toList).2 = 0 then st (orderB op (parseL a.data.toList).1 (parseL b.data.toList).1) else 2) else 2) else 2
theorem both3 (a op b : ByteArray) : St3 (bothB a op b) := by
  unfold bothB
  repeat' split
  all_goals first | exact st3 _ | exact .inr (.inr rfl)
theorem both_some (a op b : ByteArray) (ha : a.size ≤ 1048576) (hb : b.size ≤ 1048576) (k : Nat) : test_Both.f (k + 1) a op b = some (bothB a op b) := by
  unfold test_Both.f bothB
  simp only [st_of, Option.bind_some, in_LN, parse_spec a (by omega), parse_spec b (by omega)]
  by_cases h1 : op.toList = [61]
  · rw [if_pos h1, if_pos h1]
  rw [if_neg h1, if_neg h1]
  by_cases h2 : op.toList = [33, 61]
  · rw [if_pos h2, if_pos h2]
  rw [if_neg h2, if_neg h2]
  by_cases h3 : anyB LN op = true
  · rw [if_pos h3, if_pos h3]
    generalize parseL a.data.toList = x
    generalize parseL b.data.toList = y
    have hj : ∀ z : Bool, test_Both.j0 (k + 1) op x.1 y.1 z = some (if z = true then 2 else st (orderB op x.1 y.1)) := fun z => by
      rw [test_Both.j0]
      cases z
      · rw [if_neg Bool.false_ne_true, if_neg Bool.false_ne_true, order_some, Option.bind_some, st_of, Option.bind_some]
      · rw [if_pos rfl, if_pos rfl]
    simp only [hj]
    by_cases h4 : x.2 = 0
    · rw [if_pos h4, if_pos h4]
      by_cases h5 : y.2 = 0
      · rw [if_neg (by simp [h5]), if_pos h5]
      · rw [if_pos (by simpa using h5), if_neg h5]
    · rw [if_neg h4, if_neg h4]
      first | rw [if_pos trivial] | rw [if_pos rfl]
  · rw [if_neg h3, if_neg h3]
theorem ref_j0 (k : Nat) (op : ByteArray) (x y : Int) (z : Bool) : cowrieref10_Both.j0 (k + 1) op x y z = some (if z = true then 2 else st (orderB op x y)) := by
  rw [cowrieref10_Both.j0]
  cases z
  · rw [if_neg Bool.false_ne_true, if_neg Bool.false_ne_true]
    unfold orderB
    simp only [st_ref, Option.bind_some]
    by_cases h1 : op.toList = [45, 101, 113]
    · rw [if_pos h1, if_pos h1]
    rw [if_neg h1, if_neg h1]
    by_cases h2 : op.toList = [45, 110, 101]
    · rw [if_pos h2, if_pos h2]
    rw [if_neg h2, if_neg h2]
    by_cases h3 : op.toList = [45, 108, 116]
    · rw [if_pos h3, if_pos h3]
    rw [if_neg h3, if_neg h3]
    by_cases h4 : op.toList = [45, 108, 101]
    · rw [if_pos h4, if_pos h4]
    rw [if_neg h4, if_neg h4]
    by_cases h5 : op.toList = [45, 103, 116]
    · rw [if_pos h5, if_pos h5]
    rw [if_neg h5, if_neg h5]
  · rw [if_pos rfl, if_pos rfl]
theorem both_ref (a op b : ByteArray) (ha : a.size ≤ 1048576) (hb : b.size ≤ 1048576) (k : Nat) (hk : 9000000000000 ≤ k) : cowrieref10_Both.f (k + 1) a op b = some (bothB a op b) := by
  unfold cowrieref10_Both.f bothB
  simp only [st_ref, Option.bind_some, binary_ref op (k + 1) (by omega), PureN.parse_ref a (by omega) (k + 1) (by omega), PureN.parse_ref b (by omega) (k + 1) (by omega), ref_j0]
  by_cases h1 : op.toList = [61]
  · rw [if_pos h1, if_pos h1]
  rw [if_neg h1, if_neg h1]
  by_cases h2 : op.toList = [33, 61]
  · rw [if_pos h2, if_pos h2]
  rw [if_neg h2, if_neg h2]
  have hT : anyB LT op = false := by
    simp only [LT, anyB, List.any_cons, List.any_nil, Bool.or_false, Bool.or_eq_false_iff, beq_eq_false_iff_ne]
    refine ⟨fun e => h1 (by rw [← e]; decide +kernel), fun e => h2 (by rw [← e]; decide +kernel)⟩
  have hB : isB op = anyB LN op := by unfold isB; rw [hT, Bool.false_or]
  rw [hB]
  generalize parseL a.data.toList = x
  generalize parseL b.data.toList = y
  by_cases h3 : anyB LN op = true
  · rw [if_pos h3, if_pos h3]
    by_cases h4 : x.2 = 0
    · rw [if_pos h4, if_pos h4]
      by_cases h5 : y.2 = 0
      · rw [if_neg (by simp [h5]), if_pos h5]
      · rw [if_pos (by simpa using h5), if_neg h5]
    · rw [if_neg h4, if_neg h4]
      first | rw [if_pos trivial] | rw [if_pos rfl]
  · rw [if_neg h3, if_neg h3]
    first | rw [if_pos trivial] | rw [if_pos rfl]
def opp (n : Int) : Int := if n = 2 then 2 else 1 - n
theorem opp_some {n : Int} (h : St3 n) : test_opposite.f n = some (opp n) ∧ St3 (opp n) := by
  unfold test_opposite.f opp St3
  rcases h with rfl | rfl | rfl
  · simp
    decide +kernel
  · simp
    decide +kernel
  · simp
theorem opp_ref {n : Int} (h : St3 n) : cowrieref10_opposite.f n = some (opp n) := by
  unfold cowrieref10_opposite.f opp
  rcases h with rfl | rfl | rfl <;> decide +kernel
def ev1 (a : ByteArray) : Int := st (!a.toList.isEmpty)
def ev2 (a b : ByteArray) (t : List S73) : Int := if (a.toList == [33]) = true then opp (ev1 b) else singleB a b t
def ev3 (a b c : ByteArray) (t : List S73) : Int :=
  if isB b = true then bothB a b c else if (a.toList == [33]) = true then opp (ev2 b c t) else if (a.toList == [40]) = true then (if (c.toList == [41]) = true then ev1 b else 2) else 2
def ev4 (a b c d : ByteArray) (t : List S73) : Int :=
  if (a.toList == [33]) = true then opp (ev3 b c d t) else if (a.toList == [40]) = true then (if (d.toList == [41]) = true then ev2 b c t else 2) else 2
def evB (t : List S73) : List ByteArray → Int
  | [] => 1
  | [a] => ev1 a
  | [a, b] => ev2 a b t
  | [a, b, c] => ev3 a b c t
  | [a, b, c, d] => ev4 a b c d t
  | _ => 2
theorem ev1_3 (a : ByteArray) : St3 (ev1 a) := st3 _
theorem ev2_3 (a b : ByteArray) (t : List S73) : St3 (ev2 a b t) := by
  unfold ev2
  split
  · exact (opp_some (ev1_3 b)).2
  · exact single3 _ _ _
theorem ev3_3 (a b c : ByteArray) (t : List S73) : St3 (ev3 a b c t) := by
  unfold ev3
  repeat' split
  all_goals first | exact (opp_some (ev2_3 _ _ _)).2 | exact both3 _ _ _ | exact ev1_3 _ | exact .inr (.inr rfl)
theorem p1 (a : ByteArray) (t : List S73) (k : Nat) : evalF (k + 1) [a] t = some (ev1 a) := by
  simp only [evalF]
  exact st_of _
theorem p2 (a b : ByteArray) (t : List S73) (ht : fitsT t = true) (hb : b.size ≤ 1048576) (k : Nat) : evalF (k + 2) [a, b] t = some (ev2 a b t) := by
  rw [evalF.eq_4]
  unfold ev2
  by_cases h : (a.toList == [33]) = true
  · rw [if_pos h, if_pos h, p1, Option.bind_some, (opp_some (ev1_3 b)).1]
  · rw [if_neg h, if_neg h, single_some a b t ht hb]
theorem p3 (a b c : ByteArray) (t : List S73) (ht : fitsT t = true) (ha : a.size ≤ 1048576) (hb : b.size ≤ 1048576) (hc : c.size ≤ 1048576) (k : Nat) : evalF (k + 3) [a, b, c] t = some (ev3 a b c t) := by
  rw [evalF.eq_5, binary_some, Option.bind_some]
  unfold ev3
  by_cases h0 : isB b = true
  · rw [if_pos h0, if_pos h0, both_some a b c ha hc]
  rw [if_neg h0, if_neg h0]
  by_cases h : (a.toList == [33]) = true
  · rw [if_pos h, if_pos h, p2 b c t ht hc, Option.bind_some, (opp_some (ev2_3 b c t)).1]
  rw [if_neg h, if_neg h]
  by_cases h2 : (a.toList == [40]) = true
  · rw [if_pos h2, if_pos h2]
    by_cases h3 : (c.toList == [41]) = true
    · rw [if_pos h3, if_pos h3, p1]
    · rw [if_neg h3, if_neg h3]
  · rw [if_neg h2, if_neg h2]
theorem p4 (a b c d : ByteArray) (t : List S73) (ht : fitsT t = true) (ha : a.size ≤ 1048576) (hb : b.size ≤ 1048576) (hc : c.size ≤ 1048576) (hd : d.size ≤ 1048576) (k : Nat) : evalF (k + 4) [a, b, c, d] t = some (ev4 a b c d t) := by
  rw [evalF.eq_6]
  unfold ev4
  by_cases h : (a.toList == [33]) = true
  · rw [if_pos h, if_pos h, p3 b c d t ht hb hc hd, Option.bind_some, (opp_some (ev3_3 b c d t)).1]
  rw [if_neg h, if_neg h]
  by_cases h2 : (a.toList == [40]) = true
  · rw [if_pos h2, if_pos h2]
    by_cases h3 : (d.toList == [41]) = true
    · rw [if_pos h3, if_pos h3, p2 b c t ht hc]
    · rw [if_neg h3, if_neg h3]
  · rw [if_neg h2, if_neg h2]
theorem eval_some (l : List ByteArray) (t : List S73) (ht : fitsT t = true) (hl : ∀ a ∈ l, a.size ≤ 1048576) : test_Eval.f l t = some (evB t l) := by
  unfold test_Eval.f
  match l, hl with
  | [], _ => rfl
  | [a], _ => exact p1 a t 4
  | [a, b], hl => exact p2 a b t ht (hl b (by simp)) 3
  | [a, b, c], hl => exact p3 a b c t ht (hl a (by simp)) (hl b (by simp)) (hl c (by simp)) 2
  | [a, b, c, d], hl => exact p4 a b c d t ht (hl a (by simp)) (hl b (by simp)) (hl c (by simp)) (hl d (by simp)) 1
  | _ :: _ :: _ :: _ :: _ :: _, _ => simp only [evalF, evB]
theorem rd0 (a : ByteArray) (l : List ByteArray) : rdOf ByteArray.empty (a :: l) 0 = a := rfl
theorem rd1 (a b : ByteArray) (l : List ByteArray) : rdOf ByteArray.empty (a :: b :: l) 1 = b := rfl
theorem rd2 (a b c : ByteArray) (l : List ByteArray) : rdOf ByteArray.empty (a :: b :: c :: l) 2 = c := rfl
theorem rd3 (a b c d : ByteArray) (l : List ByteArray) : rdOf ByteArray.empty (a :: b :: c :: d :: l) 3 = d := rfl
theorem q1 (a : ByteArray) (t : List S73) (K : Nat) : cowrieref10_Eval.f (K + 1) [a] t = some (ev1 a) := by
  have hl : (([a] : List ByteArray).length : Int) = 1 := rfl
  rw [cowrieref10_Eval.f, hl, if_neg (by decide), if_pos rfl, if_pos (by decide), rd0, st_ref, Option.bind_some]
  unfold ev1
  first | rfl | rw [ne_emp]
theorem q2 (a b : ByteArray) (t : List S73) (ht : fitsT t = true) (hb : b.size ≤ 1048576) (K : Nat) (hK : 9000000000000 ≤ K) : cowrieref10_Eval.f (K + 6) [a, b] t = some (ev2 a b t) := by
  have hl : (([a, b] : List ByteArray).length : Int) = 2 := rfl
  rw [cowrieref10_Eval.f, hl, if_neg (by decide), if_neg (by decide), if_pos rfl, if_pos (by decide), rd0, cowrieref10_Eval.j0, hl]
  unfold ev2
  by_cases ha : (a.toList == [33]) = true
  · rw [if_pos ha, if_pos ha, if_pos (by decide), show ([a, b] : List ByteArray).drop 1 = [b] from rfl, q1, Option.bind_some, opp_ref (ev1_3 b), Option.bind_some]
  · rw [if_neg ha, if_neg ha, if_pos rfl, if_pos (by decide), rd0, unary_ref a (K + 4) (by omega), Option.bind_some, cowrieref10_Eval.j1, hl]
    by_cases hu : anyB LU a = true
    · rw [if_pos hu, if_pos (by decide), if_pos (by decide), rd0, rd1, single_ref a b t ht hb (K + 3) (by omega), Option.bind_some]
    · rw [if_neg hu, if_neg (by decide), cowrieref10_Eval.j2, hl, if_neg (by decide), if_neg (by decide), if_neg (by decide), cowrieref10_Eval.j3, hl, if_neg (by decide), if_neg (by decide), if_neg (by decide),
        single_none a b t (by simpa using hu)]
theorem q3 (a b c : ByteArray) (t : List S73) (ht : fitsT t = true) (ha : a.size ≤ 1048576) (hb : b.size ≤ 1048576) (hc : c.size ≤ 1048576) (K : Nat) (hK : 9000000000000 ≤ K) : cowrieref10_Eval.f (K + 12) [a, b, c] t = some (ev3 a b c t) := by
  have hl : (([a, b, c] : List ByteArray).length : Int) = 3 := rfl
  rw [cowrieref10_Eval.f, hl, if_neg (by decide), if_neg (by decide), if_neg (by decide), cowrieref10_Eval.j0, hl, if_neg (by decide), if_neg (by decide), cowrieref10_Eval.j1, hl, if_neg (by decide), if_pos rfl, if_pos (by decide), rd1, binary_ref b (K + 9) (by omega), Option.bind_some, cowrieref10_Eval.j2, hl]
  unfold ev3
  by_cases h0 : isB b = true
  · rw [if_pos h0, if_pos h0, if_pos (by decide), if_pos (by decide), if_pos (by decide), rd0, rd1, rd2, both_ref a b c ha hc (K + 7) (by omega), Option.bind_some]
  rw [if_neg h0, if_neg h0, if_pos rfl, if_pos (by decide), rd0, cowrieref10_Eval.j3, hl]
  by_cases h : (a.toList == [33]) = true
  · rw [if_pos h, if_pos h, if_pos (by decide), show ([a, b, c] : List ByteArray).drop 1 = [b, c] from rfl, q2 b c t ht hc (K + 1) (by omega), Option.bind_some, opp_ref (ev2_3 b c t), Option.bind_some]
  rw [if_neg h, if_neg h, if_pos rfl, if_pos (by decide), rd0, show wrap64 ((3 : Int) - 1) = 2 by decide +kernel]
  by_cases h2 : (a.toList == [40]) = true
  · rw [if_pos (beq_iff_eq.1 h2), if_pos h2, if_pos (by decide), if_pos (by decide), rd2]
    by_cases h3 : (c.toList == [41]) = true
    · rw [if_pos (beq_iff_eq.1 h3), if_pos h3, if_pos (by decide), if_pos (by decide), show (([a, b, c] : List ByteArray).take (2 : Int).toNat).drop 1 = [b] from rfl, q1, Option.bind_some]
    · rw [if_neg (fun e => h3 (beq_iff_eq.2 e)), if_neg h3]
  · rw [if_neg (fun e => h2 (beq_iff_eq.2 e)), if_neg h2]
theorem q4 (a b c d : ByteArray) (t : List S73) (ht : fitsT t = true) (ha : a.size ≤ 1048576) (hb : b.size ≤ 1048576) (hc : c.size ≤ 1048576) (hd : d.size ≤ 1048576) (K : Nat) (hK : 9000000000000 ≤ K) : cowrieref10_Eval.f (K + 18) [a, b, c, d] t = some (ev4 a b c d t) := by
  have hl : (([a, b, c, d] : List ByteArray).length : Int) = 4 := rfl
  rw [cowrieref10_Eval.f, hl, if_neg (by decide), if_neg (by decide), if_neg (by decide), cowrieref10_Eval.j0, hl, if_neg (by decide), if_neg (by decide), cowrieref10_Eval.j1, hl, if_neg (by decide), if_neg (by decide), cowrieref10_Eval.j2, hl, if_neg (by decide), if_neg (by decide), if_pos rfl, if_pos (by decide), rd0, cowrieref10_Eval.j3, hl]
  unfold ev4
  by_cases h : (a.toList == [33]) = true
  · rw [if_pos h, if_pos h, if_pos (by decide), show ([a, b, c, d] : List ByteArray).drop 1 = [b, c, d] from rfl, q3 b c d t ht hb hc hd (K + 1) (by omega), Option.bind_some, opp_ref (ev3_3 b c d t), Option.bind_some]
  rw [if_neg h, if_neg h, if_neg (by decide), if_pos rfl, if_pos (by decide), rd0, show wrap64 ((4 : Int) - 1) = 3 by decide +kernel]
  by_cases h2 : (a.toList == [40]) = true
  · rw [if_pos (beq_iff_eq.1 h2), if_pos h2, if_pos (by decide), if_pos (by decide), rd3]
    by_cases h3 : (d.toList == [41]) = true
    · rw [if_pos (beq_iff_eq.1 h3), if_pos h3, if_pos (by decide), if_pos (by decide), show (([a, b, c, d] : List ByteArray).take (3 : Int).toNat).drop 1 = [b, c] from rfl, q2 b c t ht hc (K + 7) (by omega), Option.bind_some]
    · rw [if_neg (fun e => h3 (beq_iff_eq.2 e)), if_neg h3]
  · rw [if_neg (fun e => h2 (beq_iff_eq.2 e)), if_neg h2]
theorem q5 (l : List ByteArray) (t : List S73) (h5 : 5 ≤ l.length) (K : Nat) : cowrieref10_Eval.f (K + 6) l t = some 2 := by
  rw [cowrieref10_Eval.f, if_neg (by omega), if_neg (by omega), if_neg (by omega), cowrieref10_Eval.j0, if_neg (by decide), if_neg (by omega), cowrieref10_Eval.j1, if_neg (by decide), if_neg (by omega), cowrieref10_Eval.j2, if_neg (by decide), if_neg (by omega), if_neg (by omega), cowrieref10_Eval.j3, if_neg (by decide), if_neg (by omega), if_neg (by omega)]
theorem eval_ref (l : List ByteArray) (t : List S73) (ht : fitsT t = true) (hl : ∀ a ∈ l, a.size ≤ 1048576) (K : Nat) (hK : 9000000000000 ≤ K) : cowrieref10_Eval.f (K + 18) l t = some (evB t l) := by
  match l, hl with
  | [], _ => rw [cowrieref10_Eval.f, if_pos (by rfl)]; rfl
  | [a], _ => exact q1 a t (K + 17)
  | [a, b], hl => exact q2 a b t ht (hl b (by simp)) (K + 12) (by omega)
  | [a, b, c], hl => exact q3 a b c t ht (hl a (by simp)) (hl b (by simp)) (hl c (by simp)) (K + 6) (by omega)
  | [a, b, c, d], hl => exact q4 a b c d t ht (hl a (by simp)) (hl b (by simp)) (hl c (by simp)) (hl d (by simp)) K hK
  | _ :: _ :: _ :: _ :: _ :: _, _ => exact q5 _ t (by simp) (K + 12)
end Go.Proofs.YtdfddiehiiaepaaGreatDoor.PureT10

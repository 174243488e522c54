/- Proved: the plain law of TestOpposite: ! ahead of one, two or three words tells the opposite, but what can't be asked can't be asked. Conditions: texts of at most 2 to the 40 octets, a tree that fits. -/
import Derived.Test.YtdfddiehiiaepaaDoorVoS1
import Derived.Test.YtdfddiehiiaepaaDoorVoPureTestFiles
import Derived.Test.YtdfddiehiiaepaaDoorVoParseQ
set_option linter.unusedVariables false
set_option linter.unusedSimpArgs false
namespace Go.Proofs.YtdfddiehiiaepaaDoor.PureT10
open Go.RowKit Go.Proofs.YtdfddiehiiaepaaDoor.P Go.Proofs.YtdfddiehiiaepaaDoor.Q Go.Proofs.YtdfddiehiiaepaaDoor.S Go.Proofs.YtdfddiehiiaepaaDoor.Ext Go.Proofs.YtdfddiehiiaepaaDoorW.PrintWords
theorem index_total (l : List ByteArray) (s : ByteArray) (hl : l.length ≤ 1000) : ∀ (k i : Nat), i ≤ l.length → l.length < i + k → ∃ r, R.slices_Index_string_string.l0 k l s (l.length : Int) (i : Int) = some r
  | 0, i, h0, h => by omega
  | k + 1, i, h0, h => by
    simp only [R.slices_Index_string_string.l0]
    by_cases h1 : (i : Int) < (l.length : Int)
    · rw [if_pos h1, if_pos (by omega), if_pos h1]
      split
      · exact ⟨_, rfl⟩
      · rw [w64_id (by omega) (by omega)]
        exact index_total l s hl k (i + 1) (by omega) (by omega)
    · rw [if_neg h1]
      exact ⟨_, rfl⟩
theorem contains_total (l : List ByteArray) (s : ByteArray) (hl : l.length ≤ 100) : ∃ r, R.slices_Contains_string_string.f 200 l s = some r := by
  obtain ⟨r, hr⟩ := index_total l s (by omega) 200 0 (by omega) (by omega)
  unfold R.slices_Contains_string_string.f R.slices_Index_string_string.f
  rw [show ((0 : Nat) : Int) = 0 from rfl] at hr
  rw [hr]
  exact ⟨_, rfl⟩
theorem in_total (set s : ByteArray) (h : set.data.toList.all (fun c => decide (c.toNat < 128)) = true ∧ set.size ≤ 200 ∧ (wordsOf set).length ≤ 100) : ∃ r, test_in.f set s = some r := by
  unfold test_in.f
  rw [if_pos h]
  split
  · exact ⟨_, rfl⟩
  · exact contains_total _ s h.2.2
theorem binary_total (s : ByteArray) : ∃ r, test_Binary.f s = some r := by
  obtain ⟨r, hr⟩ := in_total ⟨#[61, 32, 33, 61]⟩ s (by decide +kernel)
  obtain ⟨r2, hr2⟩ := in_total ⟨#[45, 101, 113, 32, 45, 110, 101, 32, 45, 108, 116, 32, 45, 108, 101, 32, 45, 103, 116, 32, 45, 103, 101]⟩ s (by decide +kernel)
  unfold test_Binary.f
  rw [hr, Option.bind_some, hr2]
  split
  · exact ⟨_, rfl⟩
  · exact ⟨_, rfl⟩
/-- A status. -/
def St3 (n : Int) : Prop := n = 0 ∨ n = 1 ∨ n = 2
theorem st3 (b : Bool) : St3 (if b = true then 0 else 1) := by cases b <;> simp [St3]
theorem order_total (op : ByteArray) (x y : Int) : ∃ b, test_order.f op x y = some b := by
  unfold test_order.f
  repeat' split
  all_goals exact ⟨_, rfl⟩
theorem both_total (a op b : ByteArray) (ha : a.size ≤ 1099511627776) (hb : b.size ≤ 1099511627776) : ∃ r, test_Both.f 1 a op b = some r ∧ St3 r := by
  obtain ⟨i, hi⟩ := in_total ⟨#[45, 101, 113, 32, 45, 110, 101, 32, 45, 108, 116, 32, 45, 108, 101, 32, 45, 103, 116, 32, 45, 103, 101]⟩ op (by decide +kernel)
  unfold test_Both.f
  simp only [st_of, Option.bind_some]
  split
  · exact ⟨_, rfl, st3 _⟩
  · split
    · exact ⟨_, rfl, st3 _⟩
    · rw [hi, Option.bind_some]
      split
      · rw [parse_spec a (by omega), Option.bind_some, parse_spec b (by omega), Option.bind_some]
        have hj : ∀ x y f, ∃ r, test_Both.j0 1 op x y f = some r ∧ St3 r := fun x y f => by
          simp only [test_Both.j0]
          split
          · exact ⟨_, rfl, .inr (.inr rfl)⟩
          · obtain ⟨o, ho⟩ := order_total op x y
            rw [ho, Option.bind_some, st_of, Option.bind_some]
            exact ⟨_, rfl, st3 _⟩
        split
        · exact hj _ _ _
        · exact hj _ _ _
      · exact ⟨_, rfl, .inr (.inr rfl)⟩
theorem single_total (op s : ByteArray) (t : List S65) (ht : fitsT t = true) (hs : s.size ≤ 1099511627776) : ∃ r, test_Single.f op s t = some r ∧ St3 r := by
  unfold test_Single.f
  simp only [st_of, Option.bind_some, kind_some ht hs, get_some ht hs]
  repeat' split
  all_goals first | exact ⟨_, rfl, st3 _⟩ | exact ⟨_, rfl, .inr (.inr rfl)⟩ | exact ⟨_, rfl, .inl rfl⟩ | exact ⟨_, rfl, .inr (.inl rfl)⟩
def opp (n : Int) : Int := if n = 2 then 2 else 1 - n
theorem opp_some {n : Int} (h : St3 n) : test_opposite.f n = some (opp n) ∧ St3 (opp n) := by
  unfold test_opposite.f opp St3
  rcases h with rfl | rfl | rfl
  · simp
    decide +kernel
  · simp
    decide +kernel
  · simp
/-- What words ask has one answer, whatever the rounds. -/
def Told (l : List ByteArray) (t : List S65) (n : Int) : Prop := St3 n ∧ ∀ k, l.length ≤ k → evalF (k + 1) l t = some n
theorem told_1 (a : ByteArray) (t : List S65) : Told [a] t (if (!a.toList.isEmpty) = true then 0 else 1) :=
  ⟨st3 _, fun k _ => by simp only [evalF]; exact st_of _⟩
theorem told_2 (a b : ByteArray) (t : List S65) (ht : fitsT t = true) (hb : b.size ≤ 1099511627776) : ∃ n, Told [a, b] t n ∧ ((a.toList == [33]) = true → ∀ m, Told [b] t m → n = opp m) := by
  by_cases ha : (a.toList == [33]) = true
  · obtain ⟨h1, h2⟩ := told_1 b t
    obtain ⟨ho, hs⟩ := opp_some h1
    refine ⟨_, ⟨hs, fun k hk => ?_⟩, fun _ m hm => ?_⟩
    · cases k with
      | zero => simp at hk
      | succ k =>
        have h3 := h2 k (by simp at hk ⊢; omega)
        rw [evalF.eq_4, if_pos ha, h3, Option.bind_some, ho]
    · have e1 := hm.2 1 (by simp)
      have e2 := h2 1 (by simp)
      rw [e1] at e2
      rw [Option.some.inj e2]
  · obtain ⟨r, hr, hs⟩ := single_total a b t ht hb
    exact ⟨r, ⟨hs, fun k _ => by simp only [evalF]; rw [if_neg ha, hr]⟩, fun h => absurd h ha⟩
theorem told_3 (a b c : ByteArray) (t : List S65) (ht : fitsT t = true) (ha : a.size ≤ 1099511627776) (hb : b.size ≤ 1099511627776) (hc : c.size ≤ 1099511627776) :
    ∃ n, Told [a, b, c] t n ∧ (test_Binary.f b = some true → test_Both.f 1 a b c = some n) ∧ ((a.toList == [33]) = true → test_Binary.f b = some false → ∀ m, Told [b, c] t m → n = opp m) := by
  obtain ⟨bb, hbb⟩ := binary_total b
  cases bb with
  | true =>
    obtain ⟨r, hr, hs⟩ := both_total a b c ha hc
    exact ⟨r, ⟨hs, fun k _ => by simp only [evalF]; rw [hbb, Option.bind_some, if_pos rfl, hr]⟩, fun _ => hr, fun _ h => absurd (hbb.symm.trans h) (by simp)⟩
  | false =>
    by_cases h33 : (a.toList == [33]) = true
    · obtain ⟨m, hm, _⟩ := told_2 b c t ht hc
      obtain ⟨ho, hs⟩ := opp_some hm.1
      refine ⟨_, ⟨hs, fun k hk => ?_⟩, fun h => absurd (hbb.symm.trans h) (by simp), fun _ _ m' hm' => ?_⟩
      · cases k with
        | zero => simp at hk
        | succ k =>
          have h3 := hm.2 k (by simp at hk ⊢; omega)
          rw [evalF.eq_5, hbb, Option.bind_some, if_neg (by simp), if_pos h33, h3, Option.bind_some, ho]
      · have e1 := hm'.2 2 (by simp)
        have e2 := hm.2 2 (by simp)
        rw [e1] at e2
        rw [Option.some.inj e2]
    · by_cases h40 : (a.toList == [40]) = true
      · by_cases h41 : (c.toList == [41]) = true
        · obtain ⟨h1, h2⟩ := told_1 b t
          refine ⟨_, ⟨h1, fun k hk => ?_⟩, fun h => absurd (hbb.symm.trans h) (by simp), fun h => absurd h h33⟩
          cases k with
          | zero => simp at hk
          | succ k =>
            have h3 := h2 k (by simp at hk ⊢; omega)
            rw [evalF.eq_5, hbb, Option.bind_some, if_neg (by simp), if_neg h33, if_pos h40, if_pos h41, h3]
        · exact ⟨2, ⟨.inr (.inr rfl), fun k _ => by rw [evalF.eq_5, hbb, Option.bind_some, if_neg (by simp), if_neg h33, if_pos h40, if_neg h41]⟩, fun h => absurd (hbb.symm.trans h) (by simp), fun h => absurd h h33⟩
      · exact ⟨2, ⟨.inr (.inr rfl), fun k _ => by rw [evalF.eq_5, hbb, Option.bind_some, if_neg (by simp), if_neg h33, if_neg h40]⟩, fun h => absurd (hbb.symm.trans h) (by simp), fun h => absurd h h33⟩
theorem bang : ((⟨#[33]⟩ : ByteArray).toList == [33]) = true := by decide +kernel
theorem fin_ok {n m : Int} (hn : St3 n) (hm : m = opp n) : (if n > 1 then (if m = n then some true else (if n ≤ 1 then some (m == (wrap64 (1 - n))) else some false)) else (if n ≤ 1 then some (m == (wrap64 (1 - n))) else some false)) = some true := by
  subst hm
  rcases hn with rfl | rfl | rfl
  · simp [opp]
    decide +kernel
  · simp [opp]
    decide +kernel
  · simp [opp]
theorem TestOppositeU (l : List ByteArray) (t : List S65) (ht : fitsT t = true) (hl : ∀ a ∈ l, a.size ≤ 1099511627776) : cowrielaw10_TestOpposite.f 2 l t = some true := by
  have hj : ∀ x, x = true → cowrielaw10_TestOpposite.j0 2 l t x = some true := fun x hx => by simp only [cowrielaw10_TestOpposite.j0]; rw [if_pos hx]
  unfold cowrielaw10_TestOpposite.f
  rw [show cowrielaw10_alive.f = some true from rfl, Option.bind_some, if_pos rfl]
  match l, hl, hj with
  | [], _, hj => rw [if_pos (by rfl)]; exact hj _ rfl
  | _ :: _ :: _ :: _ :: _, _, hj => rw [if_neg (by simp; omega)]; exact hj _ (by simp; omega)
  | [a], hl, hj =>
    obtain ⟨h1, h2⟩ := told_1 a t
    obtain ⟨n2, h3, h4⟩ := told_2 ⟨#[33]⟩ a t ht (hl a (by simp))
    have h5 := h4 bang _ (told_1 a t)
    simp only [cowrielaw10_TestOpposite.j0, test_Eval.f]
    rw [if_neg (by simp), if_neg (by simp), if_pos (by simp), Option.bind_some, if_pos (by simp), Option.bind_some]
    simp only [List.nil_append, List.cons_append]
    rw [h2 4 (by simp), Option.bind_some, h3.2 4 (by simp), Option.bind_some, if_neg (by simp)]
    exact fin_ok h1 h5
  | [a, b], hl, hj =>
    have hza := hl a (by simp)
    have hzb := hl b (by simp)
    obtain ⟨n, h1, _⟩ := told_2 a b t ht hzb
    obtain ⟨n2, h3, h4, h5⟩ := told_3 ⟨#[33]⟩ a b t ht (by decide +kernel) hza hzb
    simp only [cowrielaw10_TestOpposite.j0, test_Eval.f]
    rw [if_neg (by simp), if_neg (by simp), if_pos (by simp), Option.bind_some, if_pos (by simp), Option.bind_some]
    simp only [List.nil_append, List.cons_append]
    rw [h1.2 4 (by simp), Option.bind_some, h3.2 4 (by simp), Option.bind_some, if_pos (by simp), if_pos (by simp)]
    rw [show rdOf ByteArray.empty [(⟨#[33]⟩ : ByteArray), a, b] 1 = a from rfl, show rdOf ByteArray.empty [(⟨#[33]⟩ : ByteArray), a, b] 0 = ⟨#[33]⟩ from rfl, show rdOf ByteArray.empty [(⟨#[33]⟩ : ByteArray), a, b] 2 = b from rfl]
    obtain ⟨bb, hbb⟩ := binary_total a
    rw [hbb, Option.bind_some]
    cases bb with
    | true =>
      rw [if_pos rfl, if_pos (by simp), if_pos (by simp), h4 hbb, Option.bind_some]
      simp
    | false =>
      rw [if_neg (by simp)]
      exact fin_ok h1.1 (h5 bang hbb n h1)
  | [a, b, c], hl, hj =>
    have hza := hl a (by simp)
    have hzb := hl b (by simp)
    have hzc := hl c (by simp)
    obtain ⟨n, h1, _⟩ := told_3 a b c t ht hza hzb hzc
    obtain ⟨ho, hs⟩ := opp_some h1.1
    have h4 : evalF 5 [⟨#[33]⟩, a, b, c] t = some (opp n) := by
      rw [evalF.eq_6, if_pos bang, h1.2 3 (by simp), Option.bind_some, ho]
    simp only [cowrielaw10_TestOpposite.j0, test_Eval.f]
    rw [if_neg (by simp), if_neg (by simp), if_pos (by simp), Option.bind_some, if_pos (by simp), Option.bind_some]
    simp only [List.nil_append, List.cons_append]
    rw [h1.2 4 (by simp), Option.bind_some, h4, Option.bind_some, if_neg (by simp)]
    exact fin_ok h1.1 rfl
end Go.Proofs.YtdfddiehiiaepaaDoor.PureT10

/- Proved: the page's Check, ask and room of a tree are those of the program. Conditions: a tree that fits, texts of at most 2 to the 40 octets. -/
import Derived.Test.YtdfddiehiiaepaaGreatDoorVsP3
import Derived.Test.YtdfddiehiiaepaaGreatDoorVsRefTree
set_option linter.unusedVariables false
set_option linter.unusedSimpArgs false
namespace Go.Proofs.YtdfddiehiiaepaaGreatDoor.PureT7
open Go.RowKit Go.Proofs.YtdfddiehiiaepaaGreatDoor.P Go.Proofs.YtdfddiehiiaepaaGreatDoor.Ext Go.Proofs.YtdfddiehiiaepaaGreatDoorW.PrintWords
/-- What the page asks of the node at a place. -/
def NodeC (t : List S73) (j : Nat) (n : S73) : Prop :=
  badP n.f0 = false ∧ pathB n.f0 = n.f0 ∧ n.f0.data.toList ≠ [47] ∧ (∀ m, j = m + 1 → pk (rd_T73 t (m : Int)) < pk n) ∧ (n.f1 = true → n.f2.data.toList = []) ∧ total (t.take (j + 1)) ≤ 65536 ∧ (Sorted t → kindOf t (dirB n.f0) = 2)
theorem total_take_succ {t : List S73} {i : Nat} (h : i < t.length) : total (t.take (i + 1)) = total (t.take i) + (t[i]).f2.size := by
  rw [List.take_succ_eq_append_getElem h, total_append, total_cons]
  simp [total]
theorem check_loop (t : List S73) (ht : fitsT t = true) : ∀ (d i K : Nat), i + d = t.length → total t * 0 + t.length + 5497558138890 + d ≤ K →
    ∃ r : Int, cowrieref07_Check.l0 K t ((total (t.take i) : Nat) : Int) i = some r ∧ (r = 0 ∨ r = 9) ∧ (r = 0 → ∀ j (hj : j < t.length), i ≤ j → NodeC t j t[j]) ∧ (Sorted t → (∀ j (hj : j < t.length), i ≤ j → NodeC t j t[j]) → r = 0)
  | 0, i, K, hd, hK => by
    obtain ⟨K, rfl⟩ : ∃ k, K = k + 1 := ⟨K - 1, by omega⟩
    unfold cowrieref07_Check.l0
    rw [if_neg (by omega)]
    exact ⟨0, rfl, .inl rfl, fun _ j hj hij => by omega, fun _ _ => rfl⟩
  | d + 1, i, K, hd, hK => by
    obtain ⟨K, rfl⟩ : ∃ k, K = k + 1 := ⟨K - 1, by omega⟩
    have hil : i < t.length := by omega
    obtain ⟨hl, htt, hsz⟩ : t.length ≤ 1099511627776 ∧ total t ≤ 1099511627776 ∧ ∀ n ∈ t, n.f0.size ≤ 1099511627776 := by
      unfold fitsT at ht
      simp only [Bool.and_eq_true, decide_eq_true_eq, List.all_eq_true] at ht
      exact ⟨ht.1.1, ht.1.2, ht.2⟩
    have hsi := hsz _ (List.getElem_mem hil)
    have htk := total_take_succ hil
    have htl : total (t.take (i + 1)) ≤ total t := by
      have := total_cut t (i + 1)
      omega
    have hno : ∀ r : Int, r = 9 → ¬ NodeC t i t[i] → ((r = 0 ∨ r = 9) ∧ (r = 0 → ∀ j (hj : j < t.length), i ≤ j → NodeC t j t[j]) ∧ (Sorted t → (∀ j (hj : j < t.length), i ≤ j → NodeC t j t[j]) → r = 0)) := by
      rintro r rfl hn
      exact ⟨.inr rfl, fun h => absurd h (by decide), fun _ h => absurd (h i hil (Nat.le_refl _)) hn⟩
    -- what stands behind the tests on the node itself
    have tail : badP (t[i]).f0 = false → pathB (t[i]).f0 = (t[i]).f0 → (t[i]).f0.data.toList ≠ [47] → (∀ m, i = m + 1 → pk (rd_T73 t (m : Int)) < pk t[i]) → ((t[i]).f1 = true → (t[i]).f2.data.toList = []) →
        ∃ r : Int, (if (wrap64 (((total (t.take i) : Nat) : Int) + ((t[i]).f2.size : Int))) > 65536 then (some 9) else ((cowrieref07_above.f K (t[i]).f0).bind fun a => ((cowrieref07_kind.f K t a).bind fun b => (if b = 2 then (cowrieref07_Check.l0 K t (wrap64 (((total (t.take i) : Nat) : Int) + ((t[i]).f2.size : Int))) (wrap64 ((i : Int) + 1))) else (some 9))))) = some r ∧
          (r = 0 ∨ r = 9) ∧ (r = 0 → ∀ j (hj : j < t.length), i ≤ j → NodeC t j t[j]) ∧ (Sorted t → (∀ j (hj : j < t.length), i ≤ j → NodeC t j t[j]) → r = 0) := by
      intro h1 h2 h3 h4 h5
      have hw : wrap64 (((total (t.take i) : Nat) : Int) + ((t[i]).f2.size : Int)) = ((total (t.take (i + 1)) : Nat) : Int) := by
        rw [htk]
        unfold wrap64
        omega
      rw [hw, w1 i (by omega), above_told hsi h2 K (by omega)]
      by_cases h6 : total (t.take (i + 1)) ≤ 65536
      · rw [if_neg (by omega), Option.bind_some]
        obtain ⟨b, k1, k2⟩ := ref_kind t hl (dirB (t[i]).f0) K (by omega)
        rw [k1, Option.bind_some]
        by_cases hb : b = 2
        · rw [if_pos hb]
          obtain ⟨r, r1, r2, r3, r4⟩ := check_loop t ht d (i + 1) K (by omega) (by omega)
          refine ⟨r, r1, r2, fun h0 j hj hij => ?_, fun hs hall => r4 hs (fun j hj hij => hall j hj (by omega))⟩
          rcases Nat.lt_or_ge i j with hlt | hge
          · exact r3 h0 j hj hlt
          · obtain rfl : j = i := by omega
            exact ⟨h1, h2, h3, h4, h5, h6, fun hs => by rw [← k2 hs]; exact hb⟩
        · rw [if_neg hb]
          refine ⟨9, rfl, .inr rfl, fun h => absurd h (by decide), fun hs hall => ?_⟩
          exact absurd ((k2 hs).trans ((hall i hil (Nat.le_refl _)).2.2.2.2.2.2 hs)) hb
      · rw [if_pos (by omega)]
        exact ⟨9, rfl, hno 9 rfl (fun h => h6 h.2.2.2.2.2.1)⟩
    unfold cowrieref07_Check.l0
    rw [if_pos (by omega), if_pos (by omega), rd_get hil, ref_path _ hsi K (by omega), Option.bind_some]
    cases hbad : badP (t[i]).f0 with
    | true =>
      exact ⟨9, rfl, hno 9 rfl (fun h => by rw [h.1] at hbad; cases hbad)⟩
    | false =>
      simp only [Bool.false_eq_true, if_false]
      rw [if_pos trivial]
      by_cases h2 : (pathB (t[i]).f0).toList = (t[i]).f0.toList
      · have h2' : pathB (t[i]).f0 = (t[i]).f0 := toB (by rw [← Lib.toList_data, ← Lib.toList_data]; exact h2)
        rw [if_pos h2, h2']
        by_cases h3 : (t[i]).f0.toList = [47]
        · rw [if_pos h3]
          refine ⟨9, rfl, hno 9 rfl (fun h => h.2.2.1 ?_)⟩
          rwa [Lib.toList_data] at h3
        · rw [if_neg h3]
          rw [Lib.toList_data] at h3
          have tail2 : (∀ m, i = m + 1 → pk (rd_T73 t (m : Int)) < pk t[i]) →
              ∃ r : Int, (if (t[i]).f1 = true then (if (t[i]).f2.toList = ([] : List UInt8) then (if (wrap64 (((total (t.take i) : Nat) : Int) + ((t[i]).f2.size : Int))) > 65536 then (some 9) else ((cowrieref07_above.f K (t[i]).f0).bind fun a => ((cowrieref07_kind.f K t a).bind fun b => (if b = 2 then (cowrieref07_Check.l0 K t (wrap64 (((total (t.take i) : Nat) : Int) + ((t[i]).f2.size : Int))) (wrap64 ((i : Int) + 1))) else (some 9))))) else (some 9)) else (if (wrap64 (((total (t.take i) : Nat) : Int) + ((t[i]).f2.size : Int))) > 65536 then (some 9) else ((cowrieref07_above.f K (t[i]).f0).bind fun a => ((cowrieref07_kind.f K t a).bind fun b => (if b = 2 then (cowrieref07_Check.l0 K t (wrap64 (((total (t.take i) : Nat) : Int) + ((t[i]).f2.size : Int))) (wrap64 ((i : Int) + 1))) else (some 9)))))) = some r ∧
                (r = 0 ∨ r = 9) ∧ (r = 0 → ∀ j (hj : j < t.length), i ≤ j → NodeC t j t[j]) ∧ (Sorted t → (∀ j (hj : j < t.length), i ≤ j → NodeC t j t[j]) → r = 0) := by
            intro h4
            by_cases h5 : (t[i]).f1 = true
            · rw [if_pos h5]
              by_cases h6 : (t[i]).f2.toList = []
              · rw [if_pos h6]
                rw [Lib.toList_data] at h6
                exact tail hbad h2' h3 h4 (fun _ => h6)
              · rw [if_neg h6]
                refine ⟨9, rfl, hno 9 rfl (fun h => h6 ?_)⟩
                rw [Lib.toList_data]
                exact h.2.2.2.2.1 h5
            · rw [if_neg h5]
              exact tail hbad h2' h3 h4 (fun h => absurd h h5)
          by_cases h0 : i = 0
          · rw [if_neg (by omega)]
            exact tail2 (fun m hm => by omega)
          · obtain ⟨m, rfl⟩ : ∃ m, i = m + 1 := ⟨i - 1, by omega⟩
            rw [if_pos (by omega), wm1 m (by omega), if_pos (by omega), if_pos (by omega)]
            by_cases h4 : Op.bytesLess (rd_T73 t (m : Int)).f0.toList (t[m + 1]).f0.toList = true
            · rw [if_pos h4]
              rw [bytesLess_eq, decide_eq_true_eq, Lib.toList_data, Lib.toList_data] at h4
              exact tail2 (fun m' hm => by cases hm; exact h4)
            · rw [if_neg h4]
              refine ⟨9, rfl, hno 9 rfl (fun h => h4 ?_)⟩
              rw [bytesLess_eq, decide_eq_true_eq, Lib.toList_data, Lib.toList_data]
              exact h.2.2.2.1 m rfl
      · rw [if_neg h2]
        refine ⟨9, rfl, hno 9 rfl (fun h => h2 ?_)⟩
        rw [h.2.1]
theorem ref_check (t : List S73) (ht : fitsT t = true) (K : Nat) (hK : 9000000000000 ≤ K) : cowrieref07_Check.f K t = some (if checkB t = true then 0 else 9) := by
  have hl := fits_len ht
  unfold cowrieref07_Check.f
  by_cases h256 : t.length ≤ 256
  · rw [if_neg (by omega)]
    obtain ⟨r, h1, h2, h3, h4⟩ := check_loop t ht t.length 0 K (by omega) (by omega)
    rw [show (0 : Int) = ((total (t.take 0) : Nat) : Int) by simp [total], show ((0 : Nat) : Int) = ((total (t.take 0) : Nat) : Int) by simp [total]] at *
    refine Eq.trans ?_ (h1.trans ?_)
    · simp [total]
    · congr 1
      by_cases hc : checkB t = true
      · rw [if_pos hc]
        obtain ⟨c1, c2, c3, c4⟩ := (check_iff t).1 hc
        have := h4 c1 (fun j hj _ => by
          have h5 := c4 _ (List.getElem_mem hj)
          unfold nodeOk at h5
          simp only [Bool.and_eq_true, beq_iff_eq, Bool.not_eq_true', beq_eq_false_iff_ne] at h5
          obtain ⟨⟨⟨⟨n1, n2⟩, n3⟩, n4⟩, n5⟩ := h5
          rw [Lib.toList_data, Lib.toList_data] at n2
          rw [Lib.toList_data] at n3
          refine ⟨n1, toB n2, n3, fun m hm => ?_, fun hf => ?_, ?_, fun _ => n5⟩
          · subst hm
            rw [rd_get (by omega)]
            exact List.pairwise_iff_getElem.1 c1 m (m + 1) (by omega) hj (by omega)
          · rw [hf, Bool.true_and, Bool.not_eq_false', List.isEmpty_iff, Lib.toList_data] at n4
            exact n4
          · have := total_cut t (j + 1)
            omega)
        simpa [total] using this
      · rw [if_neg hc]
        rcases h2 with h2 | h2
        · exfalso
          have hall := h3 h2
          apply hc
          have hs : Sorted t := by
            refine (inc_sorted t).1 ((incUp_iff t t.length).2 fun j hj1 hj2 => ?_)
            have := (hall j hj2 (Nat.zero_le _)).2.2.2.1 (j - 1) (by omega)
            rw [rd_get hj2]
            exact this
          refine (check_iff t).2 ⟨hs, h256, ?_, fun n hn => ?_⟩
          · by_cases h0 : t.length = 0
            · rw [List.length_eq_zero_iff.1 h0]
              simp [total]
            · have := (hall (t.length - 1) (by omega) (Nat.zero_le _)).2.2.2.2.2.1
              rw [show t.length - 1 + 1 = t.length by omega, List.take_length] at this
              exact this
          · obtain ⟨j, hj, rfl⟩ := List.getElem_of_mem hn
            obtain ⟨n1, n2, n3, _, n5, _, n7⟩ := hall j hj (Nat.zero_le _)
            unfold nodeOk
            simp only [Bool.and_eq_true, beq_iff_eq, Bool.not_eq_true', beq_eq_false_iff_ne]
            refine ⟨⟨⟨⟨n1, by rw [n2]⟩, by rw [Lib.toList_data]; exact n3⟩, ?_⟩, n7 hs⟩
            cases hf : (t[j]).f1
            · rfl
            · rw [Bool.true_and, Bool.not_eq_false', List.isEmpty_iff, Lib.toList_data]
              exact n5 hf
        · exact h2
  · rw [if_pos (by omega), if_neg]
    intro hc
    exact h256 ((check_iff t).1 hc).2.1
theorem ref_ask (t : List S73) (ht : fitsT t = true) (a : ByteArray) (ha : a.size ≤ 1048576) (K : Nat) (hK : 9000000000000 ≤ K) : cowrieref07_ask.f K t a = some (askB t a) := by
  unfold cowrieref07_ask.f askB
  rw [ref_check t ht K hK, Option.bind_some]
  by_cases hc : checkB t = true
  · rw [if_pos hc, if_pos hc, if_pos rfl, ref_path a (by omega) K (by omega), Option.bind_some]
  · rw [if_neg hc, if_neg hc, if_neg (by decide)]
end Go.Proofs.YtdfddiehiiaepaaGreatDoor.PureT7

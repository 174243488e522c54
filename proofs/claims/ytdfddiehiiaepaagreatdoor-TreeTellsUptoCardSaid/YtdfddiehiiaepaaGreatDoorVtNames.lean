/- Proved: plain facts on the names in a directory, and what tree.List tells. Conditions: a tree that fits, a text of at most 2 to the 20 octets. -/
import Derived.Test.YtdfddiehiiaepaaGreatDoorVtP3
import Derived.Test.YtdfddiehiiaepaaGreatDoorVtRefPut
import Derived.Test.YtdfddiehiiaepaaGreatDoorVtSame7
import Derived.Test.YtdfddiehiiaepaaGreatDoorVtSorted
set_option linter.unusedVariables false
set_option linter.unusedSimpArgs false
namespace Go.Proofs.YtdfddiehiiaepaaGreatDoor.PureT7
open Go.RowKit Go.Proofs.YtdfddiehiiaepaaGreatDoor.P Go.Proofs.YtdfddiehiiaepaaGreatDoor.Ext Go.Proofs.YtdfddiehiiaepaaGreatDoorW.PrintWords
theorem rd_at (l : List ByteArray) (i : Nat) (h : i < l.length) : rdOf ByteArray.empty l (i : Int) = l[i] := by
  unfold rdOf
  rw [Int.toNat_natCast, List.getD_eq_getElem?_getD, List.getElem?_eq_getElem h]
  rfl
theorem srtL_sorted (l : List ByteArray) : (srtL l).Pairwise (· ≤ ·) := by
  have tr : ∀ a b c : List UInt8, decide (a ≤ b) = true → decide (b ≤ c) = true → decide (a ≤ c) = true := fun a b c h1 h2 => by
    simp only [decide_eq_true_eq] at *
    exact List.le_trans h1 h2
  have tt : ∀ a b : List UInt8, (decide (a ≤ b) || decide (b ≤ a)) = true := fun a b => by
    simp only [Bool.or_eq_true, decide_eq_true_eq]
    exact List.le_total a b
  refine (List.pairwise_mergeSort tr tt (l.map (·.data.toList))).imp ?_
  intro a b h
  simpa using h
theorem srt_sorted (l : List ByteArray) : (srt l).Pairwise fun a b => a.data.toList ≤ b.data.toList := by
  unfold srt
  rw [List.pairwise_map]
  refine (srtL_sorted l).imp ?_
  intro a b h
  show a.toArray.toList ≤ b.toArray.toList
  simpa using h
theorem srt_perm (l : List ByteArray) : (srt l).Perm l := by
  have h := (List.mergeSort_perm (l.map (·.data.toList)) fun x y => decide (x ≤ y)).map fun x => (⟨x.toArray⟩ : ByteArray)
  rw [List.map_map] at h
  have h2 : l.map ((fun x => (⟨x.toArray⟩ : ByteArray)) ∘ fun x => x.data.toList) = l := by
    conv => rhs; rw [← List.map_id l]
    apply List.map_congr_left
    intro x _
    rfl
  rw [h2] at h
  exact h
def namesF (l : List ByteArray) (p : ByteArray) : List ByteArray := (l.filter fun f => decide ((dirB f).toList = p.toList)).map nameB
def namesB (t : List S73) (p : ByteArray) : List ByteArray := namesF (t.map (·.f0)) p
theorem names_cons (n : S73) (t : List S73) (p : ByteArray) : namesB (n :: t) p = (if (dirB n.f0).toList = p.toList then [nameB n.f0] else []) ++ namesB t p := by
  unfold namesB namesF
  rw [List.map_cons, List.filter_cons]
  by_cases h : (dirB n.f0).toList = p.toList
  · rw [if_pos (by simpa using h), if_pos h]
    rfl
  · rw [if_neg (by simpa using h), if_neg h]
    rfl
theorem names_len (t : List S73) (p : ByteArray) : (namesB t p).length ≤ t.length := by
  unfold namesB namesF
  rw [List.length_map]
  refine Nat.le_trans (List.length_filter_le _ _) ?_
  rw [List.length_map]
  exact Nat.le_refl _
theorem list_loop (t : List S73) (hl : t.length ≤ 1000000) (hn : ∀ n ∈ t, n.f0.size ≤ 1099511627776 ∧ n.f0.data.toList.head? = some 47) (p : ByteArray) : ∀ (d i K : Nat) (out : List ByteArray), i + d = t.length → out.length ≤ i → d + 1 ≤ K →
    tree_List.l0 K p out t (t.length : Int) i = some (srt (out ++ namesB (t.drop i) p), 0)
  | 0, i, K, out, hd, ho, hK => by
    obtain ⟨K, rfl⟩ : ∃ k, K = k + 1 := ⟨K - 1, by omega⟩
    unfold tree_List.l0 octets_Sorted.f
    rw [if_neg (by omega), if_pos (by omega), List.drop_of_length_le (by omega)]
    simp [namesB, namesF]
  | d + 1, i, K, out, hd, ho, hK => by
    obtain ⟨K, rfl⟩ : ∃ k, K = k + 1 := ⟨K - 1, by omega⟩
    have hil : i < t.length := by omega
    obtain ⟨h1, h2⟩ := hn _ (List.getElem_mem hil)
    unfold tree_List.l0
    rw [if_pos (by omega), if_pos (by omega), if_pos (by omega), rd_get hil, above_some _ h2 h1, Option.bind_some, w1 i (by omega), List.drop_eq_getElem_cons hil, names_cons]
    dsimp only
    by_cases h : (dirB (t[i]).f0).toList = p.toList
    · rw [if_pos h, if_pos h, if_pos (by omega), list_loop t hl hn p d (i + 1) K _ (by omega) (by simp; omega) (by omega)]
      simp
    · rw [if_neg h, if_neg h, list_loop t hl hn p d (i + 1) K out (by omega) (by omega) (by omega)]
      rfl
def listB (t : List S73) (a : ByteArray) : List ByteArray × Int :=
  if (askB t a).2 = 0 then (if kindOf t (askB t a).1 = 0 then ([], 71) else if kindOf t (askB t a).1 = 1 then ([], 16) else (srt (namesB t (askB t a).1), 0)) else ([], (askB t a).2)
theorem node_told {t : List S73} (h : checkB t = true) {n : S73} (hn : n ∈ t) : badP n.f0 = false ∧ pathB n.f0 = n.f0 ∧ n.f0.data.toList ≠ [47] := by
  have h5 := ((check_iff t).1 h).2.2.2 n hn
  unfold nodeOk at h5
  simp only [Bool.and_eq_true, beq_iff_eq, Bool.not_eq_true', beq_eq_false_iff_ne] at h5
  obtain ⟨⟨⟨⟨n1, n2⟩, n3⟩, n4⟩, n5⟩ := h5
  rw [Lib.toList_data, Lib.toList_data] at n2
  rw [Lib.toList_data] at n3
  exact ⟨n1, toB n2, n3⟩
theorem List_some {t : List S73} {a : ByteArray} (ht : fitsT t = true) (ha : a.size ≤ 1048576) (K : Nat) (hK : 1000 ≤ K) : tree_List.f K t a = some (listB t a) := by
  have hl := fits_len ht
  have hsz : ∀ n ∈ t, n.f0.size ≤ 1099511627776 := by
    unfold fitsT at ht
    simp only [Bool.and_eq_true, decide_eq_true_eq, List.all_eq_true] at ht
    exact ht.2
  unfold tree_List.f listB
  rw [ask_some ht (by omega), Option.bind_some]
  rcases ask_cases t a with h | ⟨h1, h2⟩
  · rw [if_neg h, if_neg h]
  · rw [ask_good h1 h2, if_pos rfl, if_pos rfl]
    dsimp only
    unfold tree_kind.f
    rw [if_pos hl, Option.bind_some]
    have h256 := ((check_iff t).1 h1).2.1
    have := list_loop t (by omega) (fun n hn => ⟨hsz n hn, by rw [← (node_told h1 hn).2.1]; rfl⟩) (pathB a) t.length 0 K [] (by omega) (by simp) (by omega)
    rw [List.drop_zero, List.nil_append] at this
    have this' : tree_List.l0 K (pathB a) [] t (t.length : Int) 0 = some (srt (namesB t (pathB a)), 0) := this
    rcases kind_cases t (pathB a) with hk | hk | hk
    · rw [hk, if_pos rfl, if_pos rfl]
    · rw [hk, if_neg (by decide), if_pos rfl, if_neg (by decide), if_pos rfl]
    · rw [hk, if_neg (by decide), if_neg (by decide), if_neg (by decide), if_neg (by decide), this']
theorem name_path (l : List (List UInt8)) (w : List UInt8) (hw : 47 ∉ w) : nameB (mkB (Path.pathL (l ++ [w]))) = mkB w := by
  apply toB
  have h1 : ∃ x, (mkB (Path.pathL (l ++ [w]))).data.toList = x ++ 47 :: w := by
    by_cases h0 : l = []
    · subst h0
      exact ⟨[], by rw [mkB_data]; simp [Path.pathL, Go.Lib.join]⟩
    · refine ⟨Path.pathL l, ?_⟩
      rw [mkB_data]
      unfold Path.pathL
      rw [join_snoc l w h0]
      rfl
  obtain ⟨x, h1⟩ := h1
  have hlast := last_at h1 hw
  have hsz := Lib.size_eq (mkB (Path.pathL (l ++ [w])))
  unfold nameB
  rw [hlast, ← Lib.toList_data, Lib.extract_toList, h1, Int.toNat_natCast, hsz, h1, mkB_data]
  rw [show x ++ 47 :: w = (x ++ [47]) ++ w by simp, List.drop_left' (by simp), List.take_of_length_le (by simp; omega)]
end Go.Proofs.YtdfddiehiiaepaaGreatDoor.PureT7

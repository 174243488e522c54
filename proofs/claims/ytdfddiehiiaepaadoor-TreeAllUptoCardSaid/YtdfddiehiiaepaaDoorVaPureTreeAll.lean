/- Proved: the plain law of TreeAll: without a directory and all beneath it nothing of it is there, and all else is. Conditions: a tree that fits, texts of at most 2 to the 40 octets. -/
import Derived.Test.YtdfddiehiiaepaaDoorVaP2
import Derived.Test.YtdfddiehiiaepaaDoorVaPathRef
import Derived.Test.YtdfddiehiiaepaaDoorVaTreeOrd
set_option linter.unusedVariables false
set_option linter.unusedSimpArgs false
namespace Go.Proofs.YtdfddiehiiaepaaDoor.PureT7
open Go.RowKit Go.Proofs.YtdfddiehiiaepaaDoor.P Go.Proofs.YtdfddiehiiaepaaDoor.Ext Go.Proofs.YtdfddiehiiaepaaDoorW.PrintWords
/-- What is at a path. -/
def kindB (t : List S65) (p : ByteArray) : Int := if (askB t p).2 = 0 then kindOf t (askB t p).1 else 0
theorem fits_len {t : List S65} (ht : fitsT t = true) : t.length ≤ 1099511627776 := by
  unfold fitsT at ht
  simp only [Bool.and_eq_true, decide_eq_true_eq] at ht
  exact ht.1.1
theorem kind_some {t : List S65} {p : ByteArray} (ht : fitsT t = true) (hp : p.size ≤ 1099511627776) : tree_Kind.f t p = some (kindB t p) := by
  have hl := fits_len ht
  unfold tree_Kind.f tree_ask.f kindB
  rw [if_pos ⟨ht, hp⟩, Option.bind_some]
  split
  · unfold tree_kind.f
    rw [if_pos hl, Option.bind_some]
  · rfl
def Under (p q : List UInt8) : Prop := q = p ∨ (p ++ [47]) <+: q
theorem prefix_iff (s pre : List UInt8) : Lib.hasPrefix s pre = true ↔ pre <+: s := by
  unfold Lib.hasPrefix
  first | exact List.isPrefixOf_iff_prefix | simp [List.isPrefixOf_iff_prefix] | (rw [decide_eq_true_eq])
theorem under_iff (p : ByteArray) (n : S65) : underB p n = true ↔ Under p.data.toList (pk n) := by
  unfold underB Under pk
  rw [Bool.or_eq_true, beq_iff_eq, Lib.toList_data, Lib.toList_data, prefix_iff, data_append]
theorem mem_rest {t : List S65} {p : ByteArray} {n : S65} : n ∈ t.filter (fun n => !underB p n) ↔ n ∈ t ∧ ¬ Under p.data.toList (pk n) := by
  rw [List.mem_filter, Bool.not_eq_true', ← Bool.not_eq_true, under_iff]
theorem total_filter (f : S65 → Bool) : ∀ t : List S65, total (t.filter f) ≤ total t
  | [] => Nat.le_refl _
  | n :: t => by
    have ih := total_filter f t
    have e : total (n :: t) = n.f2.size + total t := by unfold total; simp
    rw [List.filter_cons]
    split
    · have e2 : total (n :: t.filter f) = n.f2.size + total (t.filter f) := by unfold total; simp
      omega
    · omega
theorem fits_filter {t : List S65} (f : S65 → Bool) (h : fitsT t = true) : fitsT (t.filter f) = true := by
  have h1 := total_filter f t
  have h2 := List.length_filter_le f t
  unfold fitsT at h ⊢
  simp only [Bool.and_eq_true, decide_eq_true_eq, List.all_eq_true] at h ⊢
  exact ⟨⟨by omega, by omega⟩, fun n hn => h.2 n (List.mem_filter.1 hn).1⟩
theorem check_iff (t : List S65) : checkB t = true ↔ Sorted t ∧ t.length ≤ 256 ∧ total t ≤ 65536 ∧ ∀ n ∈ t, nodeOk t n = true := by
  unfold checkB
  rw [Bool.and_eq_true, Bool.and_eq_true, Bool.and_eq_true, inc_sorted, decide_eq_true_eq, decide_eq_true_eq, List.all_eq_true]
  exact ⟨fun h => ⟨h.1.1.1, h.1.1.2, h.1.2, h.2⟩, fun h => ⟨⟨⟨h.1, h.2.1⟩, h.2.2.1⟩, h.2.2.2⟩⟩
/-- A path is its directory, a / and its name. -/
theorem dir_name {p : ByteArray} (h : p.data.toList.head? = some 47) : (Lib.lastIndexByte p 47 = 0 ∧ dirB p = mkB [47]) ∨ (dirB p).data.toList ++ [47] <+: p.data.toList := by
  obtain ⟨h1, h2⟩ := last_bound p h
  have hl := Lib.size_eq p
  obtain ⟨i, hi⟩ : ∃ i : Nat, Lib.lastIndexByte p 47 = i := ⟨(Lib.lastIndexByte p 47).toNat, by omega⟩
  have hil : i < p.data.toList.length := by omega
  have hat : p.data.toList[i] = 47 := by
    rcases Lib.lastIdx_spec p 47 p.size with ⟨h3, _⟩ | ⟨j, hj, h3, h4⟩
    · unfold Lib.lastIndexByte at h1
      rw [h3] at h1
      exact absurd h1 (by decide)
    · unfold Lib.lastIndexByte at hi
      rw [h3] at hi
      obtain rfl : j = i := by omega
      have h5 := h4.1
      have h6 : p.data[j]! = p.data.toList[j] := by
        rw [getElem!_pos p.data j (by simpa using hil)]
        simp
      rw [h6] at h5
      exact UInt8.toNat_inj.1 (by exact_mod_cast h5)
  by_cases h0 : Lib.lastIndexByte p 47 = 0
  · refine .inl ⟨h0, toB ?_⟩
    unfold dirB
    rw [if_pos h0, ← Lib.toList_data, Lib.extract_toList]
    rw [hi] at h0
    obtain rfl : i = 0 := by omega
    cases hp : p.data.toList with
    | nil => rw [hp] at h; cases h
    | cons b l =>
      rw [hp] at h
      cases h
      rfl
  · refine .inr ?_
    unfold dirB
    rw [if_neg h0, ← Lib.toList_data, Lib.extract_toList, hi, Int.toNat_natCast, Nat.sub_zero, List.drop_zero]
    rw [show p.data.toList.take i ++ [47] = p.data.toList.take (i + 1) by rw [List.take_add_one, List.getElem?_eq_getElem hil, hat]; rfl]
    exact List.take_prefix _ _
/-- Without a path and all beneath it, a tree that may be may be. -/
theorem check_rest {t : List S65} (p : ByteArray) (h : checkB t = true) : checkB (t.filter (fun n => !underB p n)) = true := by
  obtain ⟨h1, h2, h3, h4⟩ := (check_iff t).1 h
  have hs : Sorted (t.filter (fun n => !underB p n)) := List.Pairwise.filter _ h1
  refine (check_iff _).2 ⟨hs, Nat.le_trans (List.length_filter_le _ _) h2, Nat.le_trans (total_filter _ _) h3, fun n hn => ?_⟩
  obtain ⟨hn1, hn2⟩ := mem_rest.1 hn
  have h5 := h4 n hn1
  unfold nodeOk at h5 ⊢
  simp only [Bool.and_eq_true, beq_iff_eq] at h5 ⊢
  refine ⟨h5.1, ?_⟩
  have hhead : n.f0.data.toList.head? = some 47 := by
    have e := h5.1.1.1.2
    rw [Lib.toList_data, Lib.toList_data] at e
    rw [← e]
    rfl
  rw [← h5.2]
  rcases dir_name hhead with ⟨_, hd⟩ | hd
  · rw [kind_top _ _ (by rw [hd]; rfl), kind_top _ _ (by rw [hd]; rfl)]
  · refine kind_same h1 hs fun m hm => ?_
    rw [mem_rest]
    refine ⟨fun h => h.1, fun h => ⟨h, fun hu => hn2 ?_⟩⟩
    rw [hm] at hu
    rcases hu with hu | hu
    · exact .inr (hu ▸ hd)
    · exact .inr (hu.trans ((List.prefix_append _ [47]).trans hd))
theorem kind_rest {t : List S65} {p q : ByteArray} (h : checkB t = true) (hp : p.data.toList ≠ [47]) (hp0 : p.data.toList ≠ []) :
    (Under p.data.toList q.data.toList → kindOf (t.filter (fun n => !underB p n)) q = 0) ∧ (¬ Under p.data.toList q.data.toList → kindOf (t.filter (fun n => !underB p n)) q = kindOf t q) := by
  have h1 := ((check_iff t).1 h).1
  have hs : Sorted (t.filter (fun n => !underB p n)) := List.Pairwise.filter _ h1
  refine ⟨fun hu => kind_miss hs ?_ fun n hn e => ?_, fun hu => kind_same h1 hs fun n hn => ?_⟩
  · rcases hu with hu | hu
    · rw [hu]
      exact hp
    · intro e
      rw [e] at hu
      have := hu.length_le
      cases hh : p.data.toList with
      | nil => exact hp0 hh
      | cons b l => rw [hh] at this; simp at this
  · exact (mem_rest.1 hn).2 (e ▸ hu)
  · rw [mem_rest]
    exact ⟨fun h => h.1, fun h => ⟨h, hn ▸ hu⟩⟩
theorem under_ext {p q : ByteArray} : (Under p.data.toList q.data.toList ↔ q.toList = p.toList ∨ (p.size < q.size ∧ (q.extract 0 (p.size + 1)).toList = (p ++ (⟨#[47]⟩ : ByteArray)).toList)) := by
  have hp := Lib.size_eq p
  have hq := Lib.size_eq q
  rw [Lib.toList_data, Lib.toList_data, Lib.extract_toList, Lib.toList_data, data_append, List.drop_zero, Nat.sub_zero]
  unfold Under
  constructor
  · rintro (h | ⟨r, h⟩)
    · exact .inl h
    · refine .inr ⟨?_, ?_⟩
      · have := congrArg List.length h
        simp at this
        omega
      · rw [← h, hp]
        show List.take _ (p.data.toList ++ [47] ++ r) = p.data.toList ++ [47]
        rw [List.take_append_of_le_length (by simp), List.take_of_length_le (by simp)]
  · rintro (h | ⟨_, h⟩)
    · exact .inl h
    · exact .inr (h ▸ List.take_prefix _ _)
theorem j0_true (K : Nat) (t x : List S65) (o p q : ByteArray) (e : Int) (h : x = [] ∨ e ≠ 0) : cowrielaw07_TreeAll.j0 (K + 1) t o x p q e true = some true := by
  simp only [cowrielaw07_TreeAll.j0]
  rw [if_pos trivial]
  by_cases hx : (x.length : Int) = 0
  · rw [if_pos hx]
  · rw [if_neg hx]
    rcases h with rfl | h
    · simp at hx
    · simp [h]
theorem j0_false (K : Nat) (t x : List S65) (o p q : ByteArray) (e : Int) (kx kt : Int) (hp : p.size ≤ 1099511627776) (hx : tree_Kind.f x o = some kx) (ht : tree_Kind.f t o = some kt)
    (h1 : Under p.data.toList q.data.toList → kx = 0) (h2 : ¬ Under p.data.toList q.data.toList → kx = kt) : cowrielaw07_TreeAll.j0 (K + 1) t o x p q e false = some true := by
  simp only [cowrielaw07_TreeAll.j0]
  rw [if_neg (by simp), hx, ht]
  simp only [Option.bind_some]
  have hw : wrap64 ((p.size : Int) + 1) = ((p.size + 1 : Nat) : Int) := w1 _ (by omega)
  by_cases hu : Under p.data.toList q.data.toList
  · obtain rfl := h1 hu
    rcases under_ext.1 hu with h | ⟨h3, h4⟩
    · rw [if_pos h, if_pos rfl]
    · split
      · rfl
      · rw [if_pos (by omega), hw, if_pos (by omega), if_pos (by omega), if_pos (by omega), Int.toNat_natCast, if_pos h4, if_pos rfl]
  · obtain rfl := h2 hu
    have hu' := fun h => hu (under_ext.2 h)
    rw [if_neg (fun h => hu' (.inl h)), hw]
    by_cases h3 : p.size < q.size
    · rw [if_pos (by omega), if_pos (by omega), if_pos (by omega), if_pos (by omega), Int.toNat_natCast, if_neg (fun h => hu' (.inr ⟨h3, h⟩))]
      simp
    · rw [if_neg (by omega)]
      simp
theorem TreeAllU (t : List S65) (a b : ByteArray) (ht : fitsT t = true) (ha : a.size ≤ 1048576) (hb : b.size ≤ 1048576) (K : Nat) (hK : 10000000 ≤ K) : cowrielaw07_TreeAll.f K t a b = some true := by
  obtain ⟨K, rfl⟩ : ∃ k, K = k + 1 := ⟨K - 1, by omega⟩
  unfold cowrielaw07_TreeAll.f
  rw [alive_ok, Option.bind_some, if_pos rfl]
  unfold tree_Remove.f
  rw [if_pos ⟨ht, by omega⟩, Option.bind_some, ref_path a (by omega) (K + 1) (by omega), Option.bind_some, ref_path b (by omega) (K + 1) (by omega), Option.bind_some, num_ok, Option.bind_some]
  -- what is told where it fails is empty
  by_cases h0 : (removeB t a true).2 = 0
  · have hx : ∃ hc : checkB t = true, badP a = false ∧ kindOf t (pathB a) ≠ 0 ∧ (pathB a).data.toList ≠ [47] ∧ (removeB t a true).1 = t.filter (fun n => !underB (pathB a) n) := by
      unfold removeB askB at h0
      by_cases hc : checkB t = true
      · cases hba : badP a with
        | true =>
          rw [if_pos hc, hba] at h0
          exact absurd h0 (by simp)
        | false =>
          refine ⟨hc, rfl, ?_⟩
          rw [if_pos hc, hba] at h0
          unfold removeB askB
          rw [if_pos hc, hba]
          simp only [Bool.false_eq_true, if_false, if_true, Bool.true_eq_false, and_false] at h0 ⊢
          by_cases hk : kindOf t (pathB a) = 0
          · rw [if_pos hk] at h0
            exact absurd h0 (by simp)
          · rw [if_neg hk] at h0 ⊢
            by_cases h47 : ((pathB a).toList == [47]) = true
            · rw [if_pos h47] at h0
              exact absurd h0 (by simp)
            · rw [if_neg h47] at ⊢
              refine ⟨hk, ?_, rfl⟩
              rw [Lib.toList_data] at h47
              simpa using h47
      · rw [if_neg hc] at h0
        exact absurd h0 (by simp)
    obtain ⟨hc, hba, hk, h47, hx⟩ := hx
    rw [if_pos h0, hba]
    simp only [Bool.false_eq_true, if_false, if_true]
    cases hbb : badP b with
    | true =>
      simp only [if_true]
      exact j0_true K _ _ _ _ _ _ (.inr (by decide))
    | false =>
      simp only [Bool.false_eq_true, if_false]
      rw [show ((0 : Int) != 0) = false from rfl, hx]
      have hp0 : (pathB a).data.toList ≠ [] := by rw [path_data]; simp [Path.pathL]
      have hfx := fits_filter (fun n => !underB (pathB a) n) ht
      have hcx := check_rest (pathB a) hc
      obtain ⟨hk1, hk2⟩ := kind_rest (q := pathB b) hc h47 hp0
      have kx : kindB (t.filter (fun n => !underB (pathB a) n)) b = kindOf (t.filter (fun n => !underB (pathB a) n)) (pathB b) := by
        unfold kindB askB
        rw [if_pos hcx, hbb]
        rfl
      have kt : kindB t b = kindOf t (pathB b) := by
        unfold kindB askB
        rw [if_pos hc, hbb]
        rfl
      have hsa := path_size a
      have hsb := path_size b
      refine j0_false K _ _ _ _ _ _ (kindOf (t.filter (fun n => !underB (pathB a) n)) (pathB b)) (kindOf t (pathB b)) (by omega) (by rw [kind_some hfx (by omega), kx]) (by rw [kind_some ht (by omega), kt]) hk1 hk2
  · have hx : (removeB t a true).1 = [] := by
      unfold removeB at h0 ⊢
      split
      · rename_i h1
        rw [if_pos h1] at h0
        split
        · rfl
        · rename_i h2
          rw [if_neg h2] at h0
          split
          · rfl
          · rename_i h3
            rw [if_neg h3] at h0
            split
            · rfl
            · rename_i h4
              rw [if_neg h4] at h0
              exact absurd rfl h0
      · rfl
    rw [if_neg h0]
    exact j0_true K _ _ _ _ _ _ (.inl hx)
end Go.Proofs.YtdfddiehiiaepaaDoor.PureT7

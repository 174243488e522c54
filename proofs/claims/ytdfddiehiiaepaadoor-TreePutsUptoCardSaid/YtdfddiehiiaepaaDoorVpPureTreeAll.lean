/- Proved: the plain law of TreeAll: without a directory and all beneath it nothing of it is there, and all else is. Conditions: a tree that fits, texts of at most 2 to the 40 octets. -/
import Derived.Test.YtdfddiehiiaepaaDoorVpP2
import Derived.Test.YtdfddiehiiaepaaDoorVpPathRef
import Derived.Test.YtdfddiehiiaepaaDoorVpTreeOrd
set_option linter.unusedVariables false
set_option linter.unusedSimpArgs false
namespace Go.Proofs.YtdfddiehiiaepaaDoor.PureT7
open Go.RowKit Go.Proofs.YtdfddiehiiaepaaDoor.P Go.Proofs.YtdfddiehiiaepaaDoor.Ext Go.Proofs.YtdfddiehiiaepaaDoorW.PrintWords
/-- What is at a path. -/
def kindB (t : List S65) (p : ByteArray) : Int := if (askB t p).2 = 0 then kindOf t (askB t p).1 else 0
theorem fits_len {t : List S65} (ht : fitsT t = true) : t.length ≤ 1099511627776 := by
  unfold fitsT at ht
  simp only [Bool.and_eq_true, decide_eq_true_eq] at ht
  exact ht.1.1
theorem kind_some {t : List S65} {p : ByteArray} (ht : fitsT t = true) (hp : p.size ≤ 1099511627776) : tree_Kind.f t p = some (kindB t p) := by
  have hl := fits_len ht
  unfold tree_Kind.f tree_ask.f kindB
  rw [if_pos ⟨ht, hp⟩, Option.bind_some]
  split
  · unfold tree_kind.f
    rw [if_pos hl, Option.bind_some]
  · rfl
def Under (p q : List UInt8) : Prop := q = p ∨ (p ++ [47]) <+: q
theorem prefix_iff (s pre : List UInt8) : Lib.hasPrefix s pre = true ↔ pre <+: s := by
  unfold Lib.hasPrefix
  first | exact List.isPrefixOf_iff_prefix | simp [List.isPrefixOf_iff_prefix] | (rw [decide_eq_true_eq])
theorem under_iff (p : ByteArray) (n : S65) : underB p n = true ↔ Under p.data.toList (pk n) := by
  unfold underB Under pk
  rw [Bool.or_eq_true, beq_iff_eq, Lib.toList_data, Lib.toList_data, prefix_iff, data_append]
theorem mem_rest {t : List S65} {p : ByteArray} {n : S65} : n ∈ t.filter (fun n => !underB p n) ↔ n ∈ t ∧ ¬ Under p.data.toList (pk n) := by
  rw [List.mem_filter, Bool.not_eq_true', ← Bool.not_eq_true, under_iff]
theorem total_filter (f : S65 → Bool) : ∀ t : List S65, total (t.filter f) ≤ total t
  | [] => Nat.le_refl _
  | n :: t => by
    have ih := total_filter f t
    have e : total (n :: t) = n.f2.size + total t := by unfold total; simp
    rw [List.filter_cons]
    split
    · have e2 : total (n :: t.filter f) = n.f2.size + total (t.filter f) := by unfold total; simp
      omega
    · omega
theorem fits_filter {t : List S65} (f : S65 → Bool) (h : fitsT t = true) : fitsT (t.filter f) = true := by
  have h1 := total_filter f t
  have h2 := List.length_filter_le f t
  unfold fitsT at h ⊢
  simp only [Bool.and_eq_true, decide_eq_true_eq, List.all_eq_true] at h ⊢
  exact ⟨⟨by omega, by omega⟩, fun n hn => h.2 n (List.mem_filter.1 hn).1⟩
theorem check_iff (t : List S65) : checkB t = true ↔ Sorted t ∧ t.length ≤ 256 ∧ total t ≤ 65536 ∧ ∀ n ∈ t, nodeOk t n = true := by
  unfold checkB
  rw [Bool.and_eq_true, Bool.and_eq_true, Bool.and_eq_true, inc_sorted, decide_eq_true_eq, decide_eq_true_eq, List.all_eq_true]
  exact ⟨fun h => ⟨h.1.1.1, h.1.1.2, h.1.2, h.2⟩, fun h => ⟨⟨⟨h.1, h.2.1⟩, h.2.2.1⟩, h.2.2.2⟩⟩
/-- A path is its directory, a / and its name. -/
theorem dir_name {p : ByteArray} (h : p.data.toList.head? = some 47) : (Lib.lastIndexByte p 47 = 0 ∧ dirB p = mkB [47]) ∨ (dirB p).data.toList ++ [47] <+: p.data.toList := by
  obtain ⟨h1, h2⟩ := last_bound p h
  have hl := Lib.size_eq p
  obtain ⟨i, hi⟩ : ∃ i : Nat, Lib.lastIndexByte p 47 = i := ⟨(Lib.lastIndexByte p 47).toNat, by omega⟩
  have hil : i < p.data.toList.length := by omega
  have hat : p.data.toList[i] = 47 := by
    rcases Lib.lastIdx_spec p 47 p.size with ⟨h3, _⟩ | ⟨j, hj, h3, h4⟩
    · unfold Lib.lastIndexByte at h1
      rw [h3] at h1
      exact absurd h1 (by decide)
    · unfold Lib.lastIndexByte at hi
      rw [h3] at hi
      obtain rfl : j = i := by omega
      have h5 := h4.1
      have h6 : p.data[j]! = p.data.toList[j] := by
        rw [getElem!_pos p.data j (by simpa using hil)]
        simp
      rw [h6] at h5
      exact UInt8.toNat_inj.1 (by exact_mod_cast h5)
  by_cases h0 : Lib.lastIndexByte p 47 = 0
  · refine .inl ⟨h0, toB ?_⟩
    unfold dirB
    rw [if_pos h0, ← Lib.toList_data, Lib.extract_toList]
    rw [hi] at h0
    obtain rfl : i = 0 := by omega
    cases hp : p.data.toList with
    | nil => rw [hp] at h; cases h
    | cons b l =>
      rw [hp] at h
      cases h
      rfl
  · refine .inr ?_
    unfold dirB
    rw [if_neg h0, ← Lib.toList_data, Lib.extract_toList, hi, Int.toNat_natCast, Nat.sub_zero, List.drop_zero]
    rw [show p.data.toList.take i ++ [47] = p.data.toList.take (i + 1) by rw [List.take_add_one, List.getElem?_eq_getElem hil, hat]; rfl]
    exact List.take_prefix _ _
/-- Without a path and all beneath it, a tree that may be may be. -/
theorem check_rest {t : List S65} (p : ByteArray) (h : checkB t = true) : checkB (t.filter (fun n => !underB p n)) = true := by
  obtain ⟨h1, h2, h3, h4⟩ := (check_iff t).1 h
  have hs : Sorted (t.filter (fun n => !underB p n)) := List.Pairwise.filter _ h1
  refine (check_iff _).2 ⟨hs, Nat.le_trans (List.length_filter_le _ _) h2, Nat.le_trans (total_filter _ _) h3, fun n hn => ?_⟩
  obtain ⟨hn1, hn2⟩ := mem_rest.1 hn
  have h5 := h4 n hn1
  unfold nodeOk at h5 ⊢
  simp only [Bool.and_eq_true, beq_iff_eq] at h5 ⊢
  refine ⟨h5.1, ?_⟩
  have hhead : n.f0.data.toList.head? = some 47 := by
    have e := h5.1.1.1.2
    rw [Lib.toList_data, Lib.toList_data] at e
    rw [← e]
    rfl
  rw [← h5.2]
  rcases dir_name hhead with ⟨_, hd⟩ | hd
  · rw [kind_top _ _ (by rw [hd]; rfl), kind_top _ _ (by rw [hd]; rfl)]
  · refine kind_same h1 hs fun m hm => ?_
    rw [mem_rest]
    refine ⟨fun h => h.1, fun h => ⟨h, fun hu => hn2 ?_⟩⟩
    rw [hm] at hu
    rcases hu with hu | hu
    · exact .inr (hu ▸ hd)
    · exact .inr (hu.trans ((List.prefix_append _ [47]).trans hd))
theorem kind_rest {t : List S65} {p q : ByteArray} (h : checkB t = true) (hp : p.data.toList ≠ [47]) (hp0 : p.data.toList ≠ []) :
    (Under p.data.toList q.data.toList → kindOf (t.filter (fun n => !underB p n)) q = 0) ∧ (¬ Under p.data.toList q.data.toList → kindOf (t.filter (fun n => !underB p n)) q = kindOf t q) := by
  have h1 := ((check_iff t).1 h).1
  have hs : Sorted (t.filter (fun n => !underB p n)) := List.Pairwise.filter _ h1
  refine ⟨fun hu => kind_miss hs ?_ fun n hn e => ?_, fun hu => kind_same h1 hs fun n hn => ?_⟩
  · rcases hu with hu | hu
    · rw [hu]
      exact hp
    · intro e
      rw [e] at hu
      have := hu.length_le
      cases hh : p.data.toList with
      | nil => exact hp0 hh
      | cons b l => rw [hh] at this; simp at this
  · exact (mem_rest.1 hn).2 (e ▸ hu)
  · rw [mem_rest]
    exact ⟨fun h => h.1, fun h => ⟨h, hn ▸ hu⟩⟩
end Go.Proofs.YtdfddiehiiaepaaDoor.PureT7

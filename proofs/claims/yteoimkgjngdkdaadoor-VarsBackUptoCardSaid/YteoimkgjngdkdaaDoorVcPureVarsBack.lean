/- Proved: the plain law of VarsBack: what was put is told, and nothing else is changed; what was taken away is not set. Conditions: at most 2 to the 20 variables, arguments, texts in a list and octets in a text. -/
import Derived.Test.YteoimkgjngdkdaaDoorVcVarsText
import Derived.Test.YteoimkgjngdkdaaDoorVcUnset2
set_option linter.unusedVariables false
set_option linter.unusedSimpArgs false
namespace Go.Proofs.YteoimkgjngdkdaaDoor.PureB
open Go.RowKit Go.Proofs.YteoimkgjngdkdaaDoor.P Go.Proofs.YteoimkgjngdkdaaDoor.Ext Go.Proofs.YteoimkgjngdkdaaDoorW.PrintWords Go.Proofs.YteoimkgjngdkdaaDoor.PureL
theorem fnd_set_other (o : ByteArray) (v : S53) : ∀ (l : List S53) (k : Nat) (p : S53), l[k]? = some p → p.f0.toList = v.f0.toList → v.f0.toList ≠ o.toList → fnd o (l.set k v) = fnd o l
  | [], k, p, h, _, _ => by simp at h
  | q :: l, 0, p, h, hp, hv => by
    obtain rfl := Option.some.inj h
    unfold fnd
    rw [List.set_cons_zero, List.find?_cons_of_neg (by rw [beq_iff_eq]; exact hv), List.find?_cons_of_neg (by rw [beq_iff_eq, hp]; exact hv)]
  | q :: l, k + 1, p, h, hp, hv => by
    have ih := fnd_set_other o v l k p h hp hv
    unfold fnd at *
    rw [List.set_cons_succ, List.find?_cons, List.find?_cons, ih]
theorem fnd_append_other (o : ByteArray) (v : S53) (l : List S53) (hv : v.f0.toList ≠ o.toList) : fnd o (l ++ [v]) = fnd o l := by
  unfold fnd
  rw [List.find?_append, List.find?_cons_of_neg (by rw [beq_iff_eq]; exact hv), List.find?_nil, Option.or_none]
theorem fnd_of_has {s : ByteArray} {xs : List S53} {v : S53} (h : HasV s xs v) : fnd s xs = some v := by
  obtain ⟨k, h1, h2⟩ := h
  rcases idx_fnd s xs 0 with ⟨e1, _⟩ | ⟨k', p, e1, e2, e3⟩
  · omega
  · rw [Nat.zero_add, h1] at e1
    obtain rfl : k = k' := by omega
    rw [h2] at e2
    rw [e3, ← Option.some.inj e2]
theorem fnd_unset (s : ByteArray) (xs : List S53) : fnd s (unsetB xs s) = none := by
  unfold fnd unsetB
  rw [List.find?_eq_none]
  intro p hp
  have := (List.mem_filter.1 hp).2
  simpa using this
/-- What putting tells. -/
theorem with_what (xs : List S53) (rs : List ByteArray) (st : Int) (s t : ByteArray) (hfit : fitsV xs = true) (hx : xs.length ≤ 1048577) (hr : rs.length ≤ 1048576) :
    P.vars_Store_with.f xs rs st s t false [] = some ([], [], 0, 17) ∨ ∃ ys, P.vars_Store_with.f xs rs st s t false [] = some (ys, rs, st, 0) ∧ HasV s ys ⟨s, t, false, []⟩ ∧ (∀ o, s.toList ≠ o.toList → fnd o ys = fnd o xs) ∧
      ys.length ≤ max xs.length 1024 ∧ (∀ y ∈ ys, y ∈ xs ∨ y = ⟨s, t, false, []⟩) ∧ ((xs.map fun p => p.f0.data.toList).Nodup → (ys.map fun p => p.f0.data.toList).Nodup) := by
  have hlx : xs.length ≤ 1099511627776 := by omega
  unfold P.vars_Store_with.f vars_own.f slices_Clone_string_string.f vars_Store_find.f
  rw [if_pos hfit, Option.bind_some, if_pos (by omega), Option.bind_some, if_pos hlx, Option.bind_some]
  rcases idxV_spec s xs 0 with hi | ⟨k, p, hi, hp, hn⟩
  · rw [hi, if_neg (by decide)]
    by_cases h1 : (xs.length : Int) ≥ 1024
    · rw [if_pos h1]
      exact .inl rfl
    · rw [if_neg h1, if_pos (by omega)]
      refine .inr ⟨_, rfl, ⟨xs.length, ?_, by rw [List.getElem?_append_right (Nat.le_refl _)]; simp⟩, fun o ho => fnd_append_other o _ xs ho, ?_, fun y hy => by simpa using hy, fun hnd => ?_⟩
      · rw [idx_append s ⟨s, t, false, []⟩ rfl xs 0 hi, Nat.zero_add]
      · rw [List.length_append, List.length_singleton]
        omega
      · rw [List.map_append, List.nodup_append]
        refine ⟨hnd, by simp, fun a ha b hb => ?_⟩
        rw [List.map_singleton, List.mem_singleton] at hb
        subst hb
        obtain ⟨q, hq, rfl⟩ := List.mem_map.1 ha
        rcases idx_fnd s xs 0 with ⟨_, e2⟩ | ⟨k', p', e1, _, _⟩
        · have := (List.find?_eq_none.1 e2) q hq
          rw [beq_iff_eq] at this
          rw [← Lib.toList_data, ← Lib.toList_data]
          exact this
        · omega
  · have hlt := (List.getElem?_eq_some_iff.1 hp).1
    rw [Nat.zero_add] at hi
    rw [hi, if_pos (by omega), if_pos (by omega), if_pos (by omega)]
    refine .inr ⟨_, rfl, ⟨k, ?_, ?_⟩, fun o ho => ?_, ?_, fun y hy => ?_, fun hnd => ?_⟩
    · have := idx_set s ⟨s, t, false, []⟩ rfl xs 0 k (by rw [hi, Nat.zero_add]) hlt
      rw [Nat.zero_add] at this
      rw [Int.toNat_natCast]
      exact this
    · rw [Int.toNat_natCast, List.getElem?_set_self hlt]
    · rw [Int.toNat_natCast]
      exact fnd_set_other o _ xs k p hp hn ho
    · rw [List.length_set]
      omega
    · rcases List.mem_or_eq_of_mem_set hy with hy | hy
      · exact .inl hy
      · exact .inr hy
    · rw [Int.toNat_natCast, List.map_set]
      have e : (xs.map fun p => p.f0.data.toList).set k s.data.toList = xs.map fun p => p.f0.data.toList := by
        rw [← Lib.toList_data, ← hn, Lib.toList_data]
        have hk : k < (xs.map fun p => p.f0.data.toList).length := by rw [List.length_map]; exact hlt
        have e2 : (xs.map fun p => p.f0.data.toList)[k] = p.f0.data.toList := by
          rw [List.getElem_map]
          rw [(List.getElem?_eq_some_iff.1 hp).2]
        rw [← e2]
        exact List.set_getElem_self hk
      show ((xs.map fun p => p.f0.data.toList).set k s.data.toList).Nodup
      rw [e]
      exact hnd
theorem ask_one (t : ByteArray) (ht : t.size ≤ 1048576) (K : Nat) (r : Int) (h : P.vars_ask.f K [t] = some r) (h0 : r = 0) : okT t = true := by
  subst h0
  unfold P.vars_ask.f at h
  cases K with
  | zero => simp [P.vars_ask.l0] at h
  | succ K =>
    have hln : (([t].length : Nat) : Int) = 1 := rfl
    rw [hln, P.vars_ask.l0, hln, if_pos (by decide), if_pos (by decide), if_pos (by decide)] at h
    unfold strings_IndexByte.f at h
    rw [Option.bind_some] at h
    have hrd : rdOf ByteArray.empty [t] 0 = t := rfl
    rw [hrd] at h
    split at h
    · cases h
    · rename_i h1
      split at h
      · cases h
      · rename_i h2
        have h3 := Lib.indexByte_ge t.data.toList 0
        have h4 : Lib.indexByte t.data.toList 0 = -1 := by
          have : ((0 : Int).toNat.toUInt8) = (0 : UInt8) := rfl
          rw [this] at h1
          omega
        unfold okT
        rw [decide_eq_true (by omega), h4]
        rfl
theorem put_cases (xs : List S53) (rs : List ByteArray) (st : Int) (s t : ByteArray) (hfit : fitsV xs = true) (hx : xs.length ≤ 1048576) (hr : rs.length ≤ 1048576) (hs : s.size ≤ 1048576) (ht : t.size ≤ 1048576) (K : Nat) (hK : 1048577 ≤ K) :
    (∃ e, P.vars_Put.f K xs rs st s t = some ([], [], 0, e) ∧ e ≠ 0) ∨ ∃ ys, P.vars_Put.f K xs rs st s t = some (ys, rs, st, 0) ∧ nameOk s = true ∧ okT t = true ∧ HasV s ys ⟨s, t, false, []⟩ ∧ (∀ o, s.toList ≠ o.toList → fnd o ys = fnd o xs) ∧
      ys.length ≤ max xs.length 1024 ∧ (∀ y ∈ ys, y ∈ xs ∨ y = ⟨s, t, false, []⟩) ∧ ((xs.map fun p => p.f0.data.toList).Nodup → (ys.map fun p => p.f0.data.toList).Nodup) := by
  unfold P.vars_Put.f P.vars_Store_put.f
  rw [name_some s (by omega), Option.bind_some]
  by_cases hn : nameOk s = true
  · rw [if_pos hn]
    obtain ⟨r, hr1⟩ := ask_f [t] (by simp) K hK
    rw [hr1, Option.bind_some]
    by_cases h0 : r = 0
    · rw [if_pos h0]
      rcases with_what xs rs st s t hfit (by omega) hr with h1 | ⟨ys, h1, h2, h3, h4, h5, h6⟩
      · rw [h1, Option.bind_some, Option.bind_some]
        exact .inl ⟨17, rfl, by decide⟩
      · rw [h1, Option.bind_some, Option.bind_some]
        exact .inr ⟨ys, rfl, hn, ask_one t ht K r hr1 h0, h2, h3, h4, h5, h6⟩
    · rw [if_neg h0, Option.bind_some]
      exact .inl ⟨r, rfl, h0⟩
  · rw [if_neg hn, Option.bind_some]
    exact .inl ⟨31, rfl, by decide⟩
theorem okV_new (s t : ByteArray) (hs : s.size ≤ 1048576) (hn : nameOk s = true) (ht : okT t = true) : okV ⟨s, t, false, []⟩ = true := by
  unfold okV
  dsimp only
  rw [name_some s (by omega), hn, ht]
  rfl
theorem plain_name {s : ByteArray} (hn : nameOk s = true) : s.toList ≠ [35] ∧ s.toList ≠ [63] ∧ s.toList ≠ [64] ∧ s.toList ≠ [42] ∧ ¬ everyB digitB s = true := by
  have key : ∀ c : UInt8, nameOk ⟨#[c]⟩ = false → s.toList ≠ [c] := fun c hc e => by
    have : s = ⟨#[c]⟩ := by
      apply ba_ext
      rw [← Lib.toList_data, e]
    rw [this, hc] at hn
    cases hn
  refine ⟨key 35 (by decide +kernel), key 63 (by decide +kernel), key 64 (by decide +kernel), key 42 (by decide +kernel), fun hd => ?_⟩
  unfold nameOk at hn
  unfold everyB at hd
  rw [Bool.and_eq_true, List.all_eq_true] at hd
  rw [Bool.and_eq_true, Bool.and_eq_true] at hn
  have h1 := hn.2.2
  have hpos : 0 < s.data.toList.length := by
    rw [← ba_size]
    have := hd.1
    simp only [Bool.not_eq_true', decide_eq_false_iff_not] at this
    omega
  rw [List.getD_eq_getElem?_getD, List.getElem?_eq_getElem hpos] at h1
  have h2 := hd.2 _ (List.getElem_mem hpos)
  simp only [Option.getD_some] at h1
  rw [h2] at h1
  cases h1
theorem okS_parts {xs : List S53} {rs : List ByteArray} {st : Int} (h : okS xs rs st = true) : (∀ x ∈ xs, okV x = true) ∧ xs.length ≤ 1024 ∧ rs.length ≤ 1024 ∧ (∀ x ∈ rs, okT x = true) ∧ 0 ≤ st ∧ st ≤ 255 ∧ (xs.map fun p => p.f0.data.toList).Nodup := by
  unfold okS at h
  simp only [Bool.and_eq_true, decide_eq_true_eq, List.all_eq_true] at h
  obtain ⟨⟨⟨⟨⟨⟨h1, h2⟩, h3⟩, h4⟩, h5⟩, h6⟩, h7⟩ := h
  exact ⟨h1, h2, h3, h4, h5, h6, h7⟩
theorem okS_mk {xs : List S53} {rs : List ByteArray} {st : Int} (h1 : ∀ x ∈ xs, okV x = true) (h2 : xs.length ≤ 1024) (h3 : rs.length ≤ 1024) (h4 : ∀ x ∈ rs, okT x = true) (h5 : 0 ≤ st) (h6 : st ≤ 255) (h7 : (xs.map fun p => p.f0.data.toList).Nodup) : okS xs rs st = true := by
  unfold okS
  simp only [Bool.and_eq_true, decide_eq_true_eq, List.all_eq_true]
  exact ⟨⟨⟨⟨⟨⟨h1, h2⟩, h3⟩, h4⟩, h5⟩, h6⟩, h7⟩
theorem okT_size {s : ByteArray} (h : okT s = true) : s.size ≤ 65536 := by
  unfold okT at h
  rw [Bool.and_eq_true, decide_eq_true_eq] at h
  exact h.1
theorem okV_parts {p : S53} (h : okV p = true) : (∀ x ∈ p.f3, okT x = true) ∧ p.f3.length ≤ 1024 := by
  unfold okV at h
  simp only [Bool.and_eq_true, decide_eq_true_eq, beq_iff_eq, List.all_eq_true] at h
  exact ⟨h.1.1.1.2, h.1.1.2⟩
theorem good_of {xs : List S53} {rs : List ByteArray} {st : Int} (h : okS xs rs st = true) : Good xs rs st := by
  obtain ⟨h1, h2, h3, h4, h5, h6, h7⟩ := okS_parts h
  exact ⟨by omega, h3, fun x hx => okT_size (h4 x hx), h5, h6, fun p hp x hx => okT_size ((okV_parts (h1 p hp)).1 x hx)⟩
theorem fits_okS {xs : List S53} {rs : List ByteArray} {st : Int} (h : okS xs rs st = true) : fitsV xs = true := by
  obtain ⟨h1, h2, _⟩ := okS_parts h
  unfold fitsV
  simp only [Bool.and_eq_true, decide_eq_true_eq, List.all_eq_true]
  exact ⟨by omega, fun x hx => by have := (okV_parts (h1 x hx)).2; omega⟩
set_option maxHeartbeats 1000000 in
theorem VarsBackU (xs : List S53) (rs : List ByteArray) (st : Int) (s t o : ByteArray) (hx : xs.length ≤ 1048576) (hf : Fit xs) (hr : rs.length ≤ 1048576) (hrs : ∀ y ∈ rs, y.size ≤ 1048576)
    (hs : s.size ≤ 1048576) (ht : t.size ≤ 1048576) (ho : o.size ≤ 1048576) : ∃ K, T.cowrielaw20_VarsBack.f K xs rs st s t o = some true := by
  obtain ⟨K, hK⟩ : ∃ K, K = 100000000 := ⟨_, rfl⟩
  refine ⟨K + 1 + 1, ?_⟩
  have hK3 : 1048577 ≤ K + 1 + 1 := by omega
  have hK4 : 50000000 ≤ K + 1 + 1 := by omega
  have hK5 : 8000000 ≤ K + 1 := by omega
  clear hK
  have hfit : fitsV xs = true := by
    unfold fitsV
    simp only [Bool.and_eq_true, decide_eq_true_eq, List.all_eq_true]
    exact ⟨by omega, fun x hx => by have := (hf x hx).1; omega⟩
  unfold T.cowrielaw20_VarsBack.f
  rw [show cowrielaw20_alive.f = some true from rfl, Option.bind_some, if_pos rfl, of_some xs rs st hx (fun x hx => (hf x hx).1) hr (K + 1 + 1) hK3, Option.bind_some]
  dsimp only
  rcases put_cases xs rs st s t hfit hx hr hs ht (K + 1 + 1) hK3 with ⟨e, h1, h2⟩ | ⟨ys, h1, hn, hkt, hv, hoth, hyl, hym, hnd⟩
  · rw [h1, Option.bind_some]
    dsimp only
    rw [num_ok, Option.bind_some, if_neg h2, T.cowrielaw20_VarsBack.j0, if_pos rfl, num_ok, Option.bind_some, if_neg h2]
    rfl
  · rw [h1, Option.bind_some]
    dsimp only
    obtain ⟨c, hc⟩ := check_total xs rs st hr hrs hf (K + 1 + 1) hK4
    rw [num_ok, Option.bind_some, if_pos rfl, hc, Option.bind_some, T.cowrielaw20_VarsBack.j0]
    by_cases h0 : c = 0
    · subst h0
      have hok := check_okS xs rs st hx hf hr hrs _ hc
      obtain ⟨g1, g2, g3, g4, g5, g6, g7⟩ := okS_parts hok
      have hoky : okS ys rs st = true := okS_mk (fun y hy => by
        rcases hym y hy with hy | rfl
        · exact g1 y hy
        · exact okV_new s t hs hn hkt) (by omega) g3 g4 g5 g6 (hnd g7)
      obtain ⟨k1, k2, k3, k4, k5, k6, k7⟩ := okS_parts hoky
      have hokz : okS (unsetB ys s) rs st = true := okS_mk (fun y hy => k1 y (List.mem_filter.1 hy).1) (Nat.le_trans (List.length_filter_le _ _) k2) k3 k4 k5 k6 (k7.sublist (List.Sublist.map _ List.filter_sublist))
      have hun : vars_Unset.f ys rs st s = some (unsetB ys s, rs, st) := by
        unfold vars_Unset.f
        rw [if_pos ⟨fits_okS hoky, by omega⟩]
      obtain ⟨p1, p2, p3, p4, p5⟩ := plain_name hn
      have e1 : spec s rs st (fnd s ys) = (t, true) := by
        unfold spec
        rw [if_neg p1, if_neg p2, if_neg p3, if_neg p4, if_neg p5, fnd_of_has hv]
        dsimp only
        rw [if_pos hn]
        rfl
      have e2 : spec s rs st (fnd s (unsetB ys s)) = (⟨#[]⟩, false) := by
        unfold spec
        rw [if_neg p1, if_neg p2, if_neg p3, if_neg p4, if_neg p5, fnd_unset]
      have hck : ∀ zs, okS zs rs st = true → vars_Check.f zs rs st = some 0 := fun zs h => by
        unfold vars_Check.f
        rw [if_pos h]
      rw [if_neg (by decide), text_prog ys rs st s (good_of hoky) hs K, e1, Option.bind_some, hun, Option.bind_some]
      dsimp only
      rw [text_prog (unsetB ys s) rs st s (good_of hokz) hs K, e2, Option.bind_some, text_prog ys rs st o (good_of hoky) ho K, Option.bind_some, text_page xs rs st o (good_of hok) ho (K + 1) hK5, Option.bind_some]
      dsimp only
      rw [if_pos rfl, if_pos rfl, if_neg Bool.false_ne_true, hck ys hoky, hck _ hokz]
      by_cases hos : o.toList = s.toList
      · rw [if_pos hos, Option.bind_some, num_ok, Option.bind_some, if_pos rfl, Option.bind_some, num_ok, Option.bind_some]
        rfl
      · rw [if_neg hos, hoth o (fun e => hos e.symm), if_pos rfl, if_pos (by rw [beq_self_eq_true]), Option.bind_some, num_ok, Option.bind_some, if_pos rfl, Option.bind_some, num_ok, Option.bind_some]
        rfl
    · rw [if_pos (by simpa using h0), num_ok, Option.bind_some, if_pos rfl]
end Go.Proofs.YteoimkgjngdkdaaDoor.PureB

/- Proved: vars.Unset's call: a store without the variables of a name, in memory of its own. Conditions: at most 2 to the 40 variables, of at most 10 to the 9 texts each, at most 10 to the 9 arguments. -/
import Derived.Test.YteoimkgjngdkdaaDoorVcOwnV
import Derived.Test.YteoimkgjngdkdaaDoorVcFindV
import Derived.Test.YteoimkgjngdkdaaDoorVcDelV2
set_option linter.unusedVariables false
set_option linter.unusedSimpArgs false
namespace Go.Proofs.YteoimkgjngdkdaaDoor.Ext
open Go.RowKit Go.Shelf Go.Proofs.YteoimkgjngdkdaaDoorW.PrintWords Go.Proofs.YteoimkgjngdkdaaDoor.P
theorem list_ofV {α : Type} {P : Nat → α → Prop} : ∀ n, (∀ i, i < n → ∃ x, P i x) → ∃ l : List α, l.length = n ∧ ∀ i x, l[i]? = some x → P i x
  | 0, _ => ⟨[], rfl, fun i x h => by simp at h⟩
  | n + 1, h => by
    obtain ⟨l, hl, hp⟩ := list_ofV n fun i hi => h i (by omega)
    obtain ⟨x, hx⟩ := h n (by omega)
    refine ⟨l ++ [x], by simp [hl], fun i y hy => ?_⟩
    rcases Nat.lt_or_ge i l.length with hi | hi
    · rw [List.getElem?_append_left hi] at hy
      exact hp i y hy
    · have : i = n := by
        have := (List.getElem?_eq_some_iff.1 hy).1
        simp at this
        omega
      subst this
      have e : x = y := by
        rw [← hl] at hy
        simpa using hy
      subst e
      exact hx
theorem chunks_eq {inner : List Value} {L : List VE} (hlen : inner.length = L.length * 4) (h : ∀ j e, L[j]? = some e → (inner.drop (j * 4)).take 4 = cellsV e) : inner = cellsE L := by
  apply List.ext_getElem?
  intro i
  rcases Nat.lt_or_ge i inner.length with hi | hi
  · have hj : i / 4 < L.length := by omega
    have h1 := h (i / 4) _ (List.getElem?_eq_getElem hj)
    have h2 := cellsE_at L (i / 4) _ (List.getElem?_eq_getElem hj) (i % 4) (by omega)
    rw [show i / 4 * 4 + i % 4 = i by omega] at h2
    rw [h2, ← h1, List.getElem?_take_of_lt (by omega), List.getElem?_drop, show i / 4 * 4 + i % 4 = i by omega]
  · rw [List.getElem?_eq_none hi, List.getElem?_eq_none (by rw [cellsE_len]; omega)]
/-- A row with lists of its own, element by element. -/
theorem S_open {w : World} {base : Nat} {v : Value} {xs : List S53} (h : Kd.S k53 53 w base (fun _ => True) v xs) :
    ∃ (f : Nat → Nat) (L : List VE), L.map (·.p) = xs ∧ OwnE w base v L ∧ ∀ j e, L[j]? = some e → k53.M w base (fun k => some k ≠ v.ownBlock ∧ f k = j) e.p (cellsV e) := by
  obtain ⟨f, h0, inner, ho, hr⟩ := h
  rw [List.length_zipIdx] at ho
  have hrl : inner.length = xs.length * 4 := by have := hr.1; rw [List.length_zipIdx] at this; exact this
  obtain ⟨L, hL, hP⟩ := list_ofV (P := fun j (e : VE) => xs[j]? = some e.p ∧ (inner.drop (j * 4)).take 4 = cellsV e ∧ k53.M w base (fun k => some k ≠ v.ownBlock ∧ f k = j) e.p (cellsV e)) xs.length (fun j hj => by
    have hx := List.getElem?_eq_getElem hj
    have hM : k53.M w base (fun k => (True ∧ some k ≠ v.ownBlock) ∧ f k = j) xs[j] ((inner.drop (j * 4)).take 4) := hr.2 j (xs[j], j) (Kd.zip_at hx)
    obtain ⟨v3, hc, hR⟩ := k53_openM hM
    obtain ⟨A, c, rfl⟩ := Kd.R_slice hR
    refine ⟨⟨xs[j], A, c⟩, hx, hc, ?_⟩
    rw [hc] at hM
    exact k53.M_mono (fun k hk => ⟨hk.1.2, hk.2⟩) hM)
  have hmap : L.map (·.p) = xs := by
    apply List.ext_getElem?
    intro j
    rw [List.getElem?_map]
    rcases Nat.lt_or_ge j L.length with hj | hj
    · rw [List.getElem?_eq_getElem hj, (hP j _ (List.getElem?_eq_getElem hj)).1]
      rfl
    · rw [List.getElem?_eq_none hj, List.getElem?_eq_none (by omega)]
      rfl
  have hin : inner = cellsE L := chunks_eq (by rw [hL]; exact hrl) (fun j e he => (hP j e he).2.1)
  refine ⟨f, L, hmap, ?_, fun j e he => (hP j e he).2.2⟩
  unfold OwnE
  rw [hL, ← hin]
  exact ho
theorem filter_index {α : Type} (keep : α → Bool) : ∀ (l : List α) (j : Nat) (e : α), (l.filter keep)[j]? = some e → ∃ i, l[i]? = some e ∧ (l.take i).countP keep = j
  | [], j, e, h => by simp at h
  | a :: l, j, e, h => by
    rw [List.filter_cons] at h
    by_cases ha : keep a = true
    · rw [if_pos ha] at h
      cases j with
      | zero => exact ⟨0, h, rfl⟩
      | succ j =>
        obtain ⟨i, h1, h2⟩ := filter_index keep l j e h
        exact ⟨i + 1, h1, by rw [List.take_succ_cons, List.countP_cons, h2, if_pos ha]⟩
    · rw [if_neg ha] at h
      obtain ⟨i, h1, h2⟩ := filter_index keep l j e h
      exact ⟨i + 1, h1, by rw [List.take_succ_cons, List.countP_cons, h2, if_neg ha]; rfl⟩
/-- Elements kept of such a row, in a later world. -/
theorem S_kept {w w1 : World} {base : Nat} {v v1 : Value} {f : Nat → Nat} {L : List VE} (keep : VE → Bool) (hM : ∀ j e, L[j]? = some e → k53.M w base (fun k => some k ≠ v.ownBlock ∧ f k = j) e.p (cellsV e)) (hO : OwnE w1 base v1 (L.filter keep)) (hv : v1.ownBlock = v.ownBlock)
    (hk : ∀ k, base ≤ k → k < w.heap.size → some k ≠ v.ownBlock → w1.heap[k]? = w.heap[k]?) : Kd.S k53 53 w1 base (fun _ => True) v1 ((L.filter keep).map (·.p)) := by
  refine ⟨fun k => (L.take (f k)).countP keep, fun _ _ => trivial, cellsE (L.filter keep), ?_, ?_, fun j p hj => ?_⟩
  · rw [List.length_zipIdx, List.length_map]
    exact hO
  · rw [List.length_zipIdx, List.length_map]
    exact cellsE_len _
  · rw [List.getElem?_zipIdx, Nat.zero_add, List.getElem?_map] at hj
    obtain ⟨x, hx, rfl⟩ := Option.map_eq_some_iff.1 hj
    obtain ⟨e, he, rfl⟩ := Option.map_eq_some_iff.1 hx
    obtain ⟨i, h1, h2⟩ := filter_index keep L j e he
    have hc : ((cellsE (L.filter keep)).drop (j * 4)).take 4 = cellsV e := by
      apply List.ext_getElem?
      intro k
      rcases Nat.lt_or_ge k 4 with hk4 | hk4
      · rw [List.getElem?_take_of_lt hk4, List.getElem?_drop, cellsE_at _ j e he k hk4]
      · rw [List.getElem?_take_eq_none hk4, List.getElem?_eq_none (by unfold cellsV; simpa using hk4)]
    show k53.M w1 base (fun k => (True ∧ some k ≠ v1.ownBlock) ∧ (L.take (f k)).countP keep = j) e.p (((cellsE (L.filter keep)).drop (j * 4)).take 4)
    rw [hc]
    have hb := k53.M_bound (hM i e h1)
    have hs := k53.M_move (w1 := w1) (fun k hk' => hk k hk'.2.1 hk'.2.2.1 hk'.1.1) hb
    exact k53.M_mono (fun k hk' => ⟨⟨trivial, by rw [hv]; exact hk'.1.1⟩, by rw [hk'.1.2]; exact h2⟩) hs
set_option maxHeartbeats 4000000 in
set_option maxRecDepth 100000 in
theorem named2_calls (B : Nat) (s : ByteArray) (p : S53) (A : Option Addr) (c : Nat) (w : World) (hbox : w.cell? ⟨B, 0, none⟩ = some (.string s)) :
    Calls Tryd.prog 36 #[.agg #[.string p.f0, .string p.f1, .bool p.f2, .slice A p.f3.length c], .pointer (some ⟨B, 0, none⟩)] w fun e w' => e = .returned (.bool (p.f0.toList == s.toList)) ∧ Below w.heap.size w w' := by
  have hB : B < w.heap.size := World.block_lt_of_cell? w ⟨B, 0, none⟩ hbox
  have hbox2 : ∀ o, (w.alloc o).cell? ⟨B, 0, none⟩ = some (.string s) := fun o => (((Below.refl _ w).alloc (Nat.le_refl _) o).cell (p := ⟨B, 0, none⟩) hB).trans hbox
  go_enter Tryd.func36, Tryd.ntmps36
  go_wp2_with fail
  go_ret
  exact ⟨rfl, (Below.refl _ w).alloc (Nat.le_refl _) _⟩
end Go.Proofs.YteoimkgjngdkdaaDoor.Ext

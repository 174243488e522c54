/- Proved: pieces.PutElement's call: a list with one turned, or one more. Condition: at most 10 to the 8 texts. -/
import Derived.Test.YteoimkgjngdkdaaDoorVbCloneS
import Derived.Test.YteoimkgjngdkdaaDoorVbP1
import Derived.Maps.AppendAt
import Derived.OwnWalk
import Derived.Lib.SliceRun
set_option linter.unusedVariables false
set_option linter.unusedSimpArgs false
namespace Go.Proofs.YteoimkgjngdkdaaDoor.Ext
open Go.RowKit Go.Shelf Go.Proofs.YteoimkgjngdkdaaDoorW.PrintWords Go.Proofs.YteoimkgjngdkdaaDoor.P
theorem own_shrink {w : World} {base e g cap n m : Nat} {xs : List Value} (h : w.ownsRow base e 1 (.slice (some ⟨g, 0, none⟩) n cap) n xs) (hm : m ≤ n) : w.ownsRow base e 1 (.slice (some ⟨g, 0, none⟩) m cap) m (xs.take m) := by
  obtain ⟨h1, h2⟩ := h
  refine ⟨by rw [List.length_take]; omega, ?_⟩
  rcases h2 with ⟨h2, _⟩ | ⟨g', cap', cur, h2, hg, hh, hc, hcm, hsz, ht⟩
  · cases h2
  · cases h2
    refine .inr ⟨g, cap, cur, rfl, hg, hh, by omega, hcm, hsz, ?_⟩
    rw [← ht, List.take_take]
    congr 1
    omega
theorem infoS : (Tryd.prog.info? 9).map (fun i => (i.zero, i.size, i.bytes)) = some (some (.string ⟨#[]⟩), 1, 16) := by kernel_rfl
def putElB (l : List ByteArray) (at_ : Int) (s : ByteArray) : List ByteArray × Int :=
  if at_ < 0 ∨ (l.length : Int) < at_ then ([], 4) else if at_ = l.length ∧ 1024 ≤ at_ then ([], 17) else (((l ++ [(⟨#[]⟩ : ByteArray)]).take (max l.length (at_.toNat + 1))).set at_.toNat s, 0)
def pieces_PutElement.f (l : List ByteArray) (at_ : Int) (s : ByteArray) : Option (List ByteArray × Int) := if l.length ≤ 100000000 then some (putElB l at_ s) else none
set_option maxHeartbeats 8000000 in
set_option maxRecDepth 100000 in
theorem pieces_PutElement.calls (A0 : Option Addr) (c0 : Nat) (l0 : List ByteArray) (a1 : Int) (a2 : ByteArray) (r1 : List ByteArray) (r2 : Int) (w : World) (hr0 : Kd.C Kd.string w A0 l0.length l0) (hc0 : l0.length ≤ c0) (h : pieces_PutElement.f l0 a1 a2 = some (r1, r2)) :
    Calls Tryd.prog 45 #[.slice A0 l0.length c0, .int .i64 a1, .string a2] w fun e w' => ∃ v0_ : Value, e = .returned (.tuple #[v0_, .int .i64 r2]) ∧ Kd.R Kd.string 9 w' w.heap.size (fun _ => True) v0_ r1 ∧ Below w.heap.size w w' := by
  unfold pieces_PutElement.f at h
  split at h
  case isFalse => cases h
  rename_i hl
  have he := Option.some.inj h
  clear h
  unfold putElB at he
  by_cases h1 : a1 < 0
  · rw [if_pos (.inl h1)] at he
    cases he
    have d1 : decide (a1 < 0) = true := decide_eq_true h1
    clear hr0 h1
    go_enter Tryd.func45, Tryd.ntmps45
    go_wp2_with fail
    go_ret2
    exact ⟨_, rfl, Kd.R_nil _ _ _ _ _, Below.refl _ _⟩
  have d1 : decide (a1 < 0) = false := decide_eq_false h1
  by_cases h2 : (l0.length : Int) < a1
  · rw [if_pos (.inr h2)] at he
    cases he
    have d2 : decide ((l0.length : Int) < a1) = true := decide_eq_true h2
    clear hr0 h1 h2
    go_enter Tryd.func45, Tryd.ntmps45
    go_wp2_with fail
    go_ret2
    exact ⟨_, rfl, Kd.R_nil _ _ _ _ _, Below.refl _ _⟩
  rw [if_neg (by omega)] at he
  have d2 : decide ((l0.length : Int) < a1) = false := decide_eq_false h2
  by_cases h3 : a1 = l0.length ∧ 1024 ≤ a1
  · rw [if_pos h3] at he
    cases he
    have d3 : (a1 == (l0.length : Int)) = true := beq_iff_eq.2 h3.1
    have d4 : decide (1024 ≤ a1) = true := decide_eq_true h3.2
    clear hr0 h1 h2 h3
    go_enter Tryd.func45, Tryd.ntmps45
    go_wp2_with fail
    go_ret2
    exact ⟨_, rfl, Kd.R_nil _ _ _ _ _, Below.refl _ _⟩
  rw [if_neg h3] at he
  obtain ⟨k, rfl⟩ : ∃ k : Nat, a1 = (k : Int) := ⟨a1.toNat, by omega⟩
  have hk : k ≤ l0.length := by omega
  obtain ⟨rfl, rfl⟩ : r1 = ((l0 ++ [(⟨#[]⟩ : ByteArray)]).take (max l0.length (k + 1))).set k a2 ∧ r2 = 0 := by cases he; exact ⟨rfl, rfl⟩
  have HC := Lib.hid (cloneS_calls A0 c0 l0 w hr0 hc0 (by omega))
  obtain ⟨i0, hi, hz0, hz1, hz2⟩ := info_parts infoS
  have hmx : (1099511627776 : Nat) + 2 ≤ maxLen := by decide
  by_cases hkn : k = l0.length
  · subst hkn
    have d3 : (((l0.length : Nat) : Int) == (l0.length : Int)) = true := beq_iff_eq.2 rfl
    have d4 : decide ((1024 : Int) ≤ (l0.length : Int)) = false := decide_eq_false (by omega)
    have d5 : decide (1024 ≤ l0.length) = false := decide_eq_false (by omega)
    clear hr0 he h1 h2 h3
    go_enter Tryd.func45, Tryd.ntmps45
    go_wp2_with fail
    refine HC.out.mono ?_
    rintro e w1 ⟨v1, rfl, hR, hb1⟩
    have hown := Kd.own_of_R hR
    obtain ⟨Av, cv, rfl⟩ := Kd.R_slice hR
    clear hR
    have hsz1 := hb1.size
    have hm2 := hown.alloc (.cells #[.string ⟨#[]⟩] 9)
    have hB2 : Below w.heap.size w (w1.alloc (.cells #[.string ⟨#[]⟩] 9)) := hb1.alloc hsz1 _
    have hcell : ∀ j u, ([Value.string ⟨#[]⟩] : List Value)[j]? = some u → (w1.alloc (.cells #[.string ⟨#[]⟩] 9)).cell? ((⟨w1.heap.size, 0, none⟩ : Addr).add j) = some u := fun j u hj => by
      match j, hj with
      | 0, hj =>
        cases hj
        unfold World.cell?
        rw [show ((⟨w1.heap.size, 0, none⟩ : Addr).add 0) = ⟨w1.heap.size, 0, none⟩ from rfl, heap_alloc_new]
        rfl
    have hone : ∀ u ∈ ([Value.string ⟨#[]⟩] : List Value), u.oneCell' = true := fun u hu => by rw [List.mem_singleton.1 hu]; rfl
    clear hb1
    go_wp2_with (at_builtin; refine wpList_append_own _ rfl _ _ 23 rfl w.heap.size 9 i0 (.string ⟨#[]⟩) 1 16 Tryd.underlying23 hi hz0 hz1 hz2 rfl (by decide) _ _ _ rfl hm2 ⟨w1.heap.size, 0, none⟩ 1 1 [.string ⟨#[]⟩] rfl rfl hcell hone (by omega) (by omega) (by simp; omega) ?_)
    intro v' w2 hown2 hgrow hnil
    obtain ⟨g, cap, rfl, hgb, hgl, hnc, hcm⟩ : ∃ g cap, v' = .slice (some ⟨g, 0, none⟩) (l0.length + 1) cap ∧ w.heap.size ≤ g ∧ g < w2.heap.size ∧ l0.length + 1 ≤ cap ∧ cap ≤ maxLen := by
      rcases hown2.2 with ⟨h, _⟩ | ⟨g, cap, cur, h, hb, hh, hc, hcm, _, _⟩
      · exact absurd h hnil
      · exact ⟨g, cap, h, hb, (Array.getElem?_eq_some_iff.1 hh).1, hc, hcm⟩
    have hB3 : Below w.heap.size w w2 := hB2.grown hgrow (by simp; omega) (fun k hk => own_base hown k hk)
    have hs := own_shrink hown2 (m := max l0.length (l0.length + 1)) (by omega)
    have xf : w2.frozen? ⟨g, l0.length, none⟩ = false := hown2.frozenAt _
    obtain ⟨u, xc⟩ : ∃ u, w2.cell? ⟨g, l0.length, none⟩ = some u := by
      rw [hown2.cellAt l0.length (by omega)]
      exact ⟨_, List.getElem?_eq_getElem (by simp [encs] <;> omega)⟩
    have hmm : (max (l0.length : Int) ((l0.length : Int) + 1)).toNat = max l0.length (l0.length + 1) := by omega
    have hst := (hs.stored l0.length (.string a2)).1
    have hrow : ((encs Value.string l0 ++ [Value.string ⟨#[]⟩]).take (max l0.length (l0.length + 1))).set l0.length (.string a2) = encs Value.string (((l0 ++ [(⟨#[]⟩ : ByteArray)]).take (max l0.length (l0.length + 1))).set l0.length a2) := by
      unfold encs
      rw [List.map_set, List.map_take, List.map_append]
      rfl
    have hrl : (((l0 ++ [(⟨#[]⟩ : ByteArray)]).take (max l0.length (l0.length + 1))).set l0.length a2).length = max l0.length (l0.length + 1) := by
      rw [List.length_set, List.length_take, List.length_append, List.length_singleton]
      omega
    rw [hrow] at hst
    have hB4 : Below w.heap.size w (w2.setCell ⟨g, l0.length, none⟩ (.string a2)) := hB3.setCell (p := ⟨g, l0.length, none⟩) hgb _
    have HST := Lib.hid hst
    have HB4 := Lib.hid hB4
    have HRL := Lib.hid hrl
    clear hown hm2 hB2 hcell hone hgrow hnil hB3 hs hst hrow hB4 hown2 hrl HC
    go_wp2_with fail
    go_ret2
    refine ⟨.slice (some ⟨g, 0, none⟩) (max l0.length (l0.length + 1)) cap, by first | rfl | (rw [← hmm]; rfl) | (rw [show max l0.length (l0.length + 1) = l0.length + 1 by omega]; rfl) | (rw [show max l0.length (l0.length + 1) = l0.length by omega]; rfl), Kd.R_of_own ?_ (fun _ _ => trivial), HB4.out⟩
    rw [HRL.out]
    exact HST.out
  · have d3 : ((k : Int) == (l0.length : Int)) = false := beq_eq_false_iff_ne.2 (by omega)
    clear hr0 he h1 h2 h3
    go_enter Tryd.func45, Tryd.ntmps45
    go_wp2_with fail
    refine HC.out.mono ?_
    rintro e w1 ⟨v1, rfl, hR, hb1⟩
    have hown := Kd.own_of_R hR
    obtain ⟨Av, cv, rfl⟩ := Kd.R_slice hR
    clear hR
    have hsz1 := hb1.size
    have hm2 := hown.alloc (.cells #[.string ⟨#[]⟩] 9)
    have hB2 : Below w.heap.size w (w1.alloc (.cells #[.string ⟨#[]⟩] 9)) := hb1.alloc hsz1 _
    have hcell : ∀ j u, ([Value.string ⟨#[]⟩] : List Value)[j]? = some u → (w1.alloc (.cells #[.string ⟨#[]⟩] 9)).cell? ((⟨w1.heap.size, 0, none⟩ : Addr).add j) = some u := fun j u hj => by
      match j, hj with
      | 0, hj =>
        cases hj
        unfold World.cell?
        rw [show ((⟨w1.heap.size, 0, none⟩ : Addr).add 0) = ⟨w1.heap.size, 0, none⟩ from rfl, heap_alloc_new]
        rfl
    have hone : ∀ u ∈ ([Value.string ⟨#[]⟩] : List Value), u.oneCell' = true := fun u hu => by rw [List.mem_singleton.1 hu]; rfl
    clear hb1
    go_wp2_with (at_builtin; refine wpList_append_own _ rfl _ _ 23 rfl w.heap.size 9 i0 (.string ⟨#[]⟩) 1 16 Tryd.underlying23 hi hz0 hz1 hz2 rfl (by decide) _ _ _ rfl hm2 ⟨w1.heap.size, 0, none⟩ 1 1 [.string ⟨#[]⟩] rfl rfl hcell hone (by omega) (by omega) (by simp; omega) ?_)
    intro v' w2 hown2 hgrow hnil
    obtain ⟨g, cap, rfl, hgb, hgl, hnc, hcm⟩ : ∃ g cap, v' = .slice (some ⟨g, 0, none⟩) (l0.length + 1) cap ∧ w.heap.size ≤ g ∧ g < w2.heap.size ∧ l0.length + 1 ≤ cap ∧ cap ≤ maxLen := by
      rcases hown2.2 with ⟨h, _⟩ | ⟨g, cap, cur, h, hb, hh, hc, hcm, _, _⟩
      · exact absurd h hnil
      · exact ⟨g, cap, h, hb, (Array.getElem?_eq_some_iff.1 hh).1, hc, hcm⟩
    have hB3 : Below w.heap.size w w2 := hB2.grown hgrow (by simp; omega) (fun k hk => own_base hown k hk)
    have hs := own_shrink hown2 (m := max l0.length (k + 1)) (by omega)
    have xf : w2.frozen? ⟨g, k, none⟩ = false := hown2.frozenAt _
    obtain ⟨u, xc⟩ : ∃ u, w2.cell? ⟨g, k, none⟩ = some u := by
      rw [hown2.cellAt k (by omega)]
      exact ⟨_, List.getElem?_eq_getElem (by simp [encs] <;> omega)⟩
    have hmm : (max (l0.length : Int) ((k : Int) + 1)).toNat = max l0.length (k + 1) := by omega
    have hst := (hs.stored k (.string a2)).1
    have hrow : ((encs Value.string l0 ++ [Value.string ⟨#[]⟩]).take (max l0.length (k + 1))).set k (.string a2) = encs Value.string (((l0 ++ [(⟨#[]⟩ : ByteArray)]).take (max l0.length (k + 1))).set k a2) := by
      unfold encs
      rw [List.map_set, List.map_take, List.map_append]
      rfl
    have hrl : (((l0 ++ [(⟨#[]⟩ : ByteArray)]).take (max l0.length (k + 1))).set k a2).length = max l0.length (k + 1) := by
      rw [List.length_set, List.length_take, List.length_append, List.length_singleton]
      omega
    rw [hrow] at hst
    have hB4 : Below w.heap.size w (w2.setCell ⟨g, k, none⟩ (.string a2)) := hB3.setCell (p := ⟨g, k, none⟩) hgb _
    have HST := Lib.hid hst
    have HB4 := Lib.hid hB4
    have HRL := Lib.hid hrl
    clear hown hm2 hB2 hcell hone hgrow hnil hB3 hs hst hrow hB4 hown2 hrl HC
    go_wp2_with fail
    go_ret2
    refine ⟨.slice (some ⟨g, 0, none⟩) (max l0.length (k + 1)) cap, by first | rfl | (rw [← hmm]; rfl) | (rw [show max l0.length (k + 1) = l0.length + 1 by omega]; rfl) | (rw [show max l0.length (k + 1) = l0.length by omega]; rfl), Kd.R_of_own ?_ (fun _ _ => trivial), HB4.out⟩
    rw [HRL.out]
    exact HST.out
end Go.Proofs.YteoimkgjngdkdaaDoor.Ext

/- Proved: vars.Unset's call, in the print's form. Conditions: at most 2 to the 40 variables, of at most 10 to the 9 texts each, at most 10 to the 9 arguments. -/
import Derived.Test.YteoimkgjngdkdaaDoorVcUnset
set_option linter.unusedVariables false
set_option linter.unusedSimpArgs false
namespace Go.Proofs.YteoimkgjngdkdaaDoor.Ext
open Go.RowKit Go.Shelf Go.Proofs.YteoimkgjngdkdaaDoorW.PrintWords Go.Proofs.YteoimkgjngdkdaaDoor.P
def unsetB (l : List S53) (s : ByteArray) : List S53 := l.filter fun p => !(p.f0.toList == s.toList)
def vars_Unset.f (l0 : List S53) (l1 : List ByteArray) (n : Int) (s : ByteArray) : Option (List S53 × List ByteArray × Int) := if fitsV l0 = true ∧ l1.length ≤ 1000000000 then some (unsetB l0 s, l1, n) else none
theorem keep_map (s : ByteArray) : ∀ L : List VE, (L.filter fun e => !(e.p.f0.toList == s.toList)).map (·.p) = unsetB (L.map (·.p)) s
  | [] => rfl
  | e :: L => by
    have ih := keep_map s L
    unfold unsetB at ih ⊢
    rw [List.filter_cons, List.map_cons, List.filter_cons]
    by_cases h : (!(e.p.f0.toList == s.toList)) = true
    · rw [if_pos h, if_pos h, List.map_cons, ih]
    · rw [if_neg h, if_neg h, ih]
set_option maxHeartbeats 8000000 in
set_option maxRecDepth 100000 in
/-- The deletion, of a row with lists of its own. -/
theorem unset_row (B : Nat) (s : ByteArray) (base : Nat) (v : Value) (xs : List S53) (w : World) (hS : Kd.S k53 53 w base (fun _ => True) v xs) (hl : xs.length ≤ 1099511627776) (hb : base ≤ w.heap.size) (hB : B < base) (hbox : w.cell? ⟨B, 0, none⟩ = some (.string s)) :
    Calls Tryd.prog 35 #[v, .func (.func 36) #[] #[.pointer (some ⟨B, 0, none⟩)]] w fun e w' => ∃ v', e = .returned v' ∧ Kd.S k53 53 w' base (fun _ => True) v' (unsetB xs s) ∧ Below base w w' := by
  obtain ⟨f, L, rfl, hO, hM⟩ := S_open hS
  have eg := enters_of Tryd.func36 (by kernel_rfl) rfl
  rw [List.length_map] at hl
  have hO2 := hO
  unfold OwnE at hO2
  rcases hO2.2 with ⟨rfl, h0⟩ | ⟨g, cap, cur, rfl, hg, hh, hr⟩
  · obtain rfl : L = [] := List.eq_nil_of_length_eq_zero h0
    have ei := enters_of Tryd.func58 (by kernel_rfl) rfl
    have HI := Lib.hid (show Calls Tryd.prog 58 #[.slice none 0 0, .func (.func 36) #[] #[.pointer (some ⟨B, 0, none⟩)]] w fun e w' => e = .returned (.int .i64 (-1)) ∧ Below w.heap.size w w' from by
      go_enter Tryd.func58, Tryd.ntmps58
      go_wp2_with fail
      go_loopw [8] (fun i wr => i = .int .i64 0 ∧ Below w.heap.size w wr) (fun i _ => 0)
      case atStart => exact ⟨rfl, Below.refl _ _⟩
      case round =>
        obtain ⟨rfl, hbw⟩ := hrel
        have HBW := Lib.hid hbw
        clear hbw
        go_wp2_with fail
        go_ret
        exact ⟨rfl, HBW.out⟩)
    clear hS hO hM
    go_enter Tryd.func35, Tryd.ntmps35
    go_wp2_with fail
    refine HI.out.mono ?_
    rintro e w1 ⟨rfl, hb1⟩
    have HB1 := Lib.hid (hb1.mono hb)
    clear hb1
    go_wp2_with fail
    go_ret
    exact ⟨_, rfl, ⟨fun _ => 0, Kd.R_nil _ _ _ _ _⟩, HB1.out⟩
  · have hgives : Gives 36 #[.pointer (some ⟨B, 0, none⟩)] (fun e => e.p.f0.toList == s.toList) base w L := fun n _ W hW => by
      have hc : W.cell? ⟨B, 0, none⟩ = some (.string s) := (hW.cell (p := ⟨B, 0, none⟩) hB).trans hbox
      exact named2_calls B s n.p n.A n.c W hc
    refine (deleteE_calls 36 #[.pointer (some ⟨B, 0, none⟩)] eg _ base g cap L w hO hl hb hgives).mono ?_
    rintro e w1 ⟨rfl, hO1, hb1, hk1⟩
    refine ⟨_, rfl, ?_, hb1⟩
    have := S_kept (w1 := w1) (v1 := .slice (some ⟨g, 0, none⟩) (L.filter fun e => !(e.p.f0.toList == s.toList)).length cap) (fun e => !(e.p.f0.toList == s.toList)) hM hO1 rfl (fun k _ hk hne => hk1 k hk (fun e => hne (by rw [e]; rfl)))
    rw [keep_map] at this
    exact this
set_option maxHeartbeats 8000000 in
set_option maxRecDepth 100000 in
theorem vars_Unset.calls (A0 : Option Addr) (c0 : Nat) (l0 : List S53) (A1 : Option Addr) (c1 : Nat) (l1 : List ByteArray) (n : Int) (s : ByteArray) (r1 : List S53) (r2 : List ByteArray) (r3 : Int) (w : World) (hr0 : Kd.C k53 w A0 l0.length l0) (hc0 : l0.length ≤ c0) (hr1 : Kd.C Kd.string w A1 l1.length l1) (hc1 : l1.length ≤ c1) (h : vars_Unset.f l0 l1 n s = some (r1, r2, r3)) :
    Calls Tryd.prog 15 #[.agg #[.slice A0 l0.length c0, .slice A1 l1.length c1, .int .i64 n], .string s] w fun e w' => ∃ v0_ v1_ : Value, e = .returned (.agg #[v0_, v1_, .int .i64 r3]) ∧ Kd.S k53 53 w' w.heap.size (fun k_ => some k_ ≠ (v1_ : Value).ownBlock) v0_ r1 ∧ Kd.R Kd.string 9 w' w.heap.size (fun _ => True) v1_ r2 ∧ Below w.heap.size w w' := by
  unfold vars_Unset.f at h
  split at h
  case isFalse => cases h
  rename_i hcond
  obtain ⟨hfit, hl1⟩ := hcond
  obtain ⟨rfl, rfl, rfl⟩ : r1 = unsetB l0 s ∧ r2 = l1 ∧ r3 = n := by cases h; exact ⟨rfl, rfl, rfl⟩
  clear h
  have hfit2 := hfit
  unfold fitsV at hfit2
  simp only [Bool.and_eq_true, decide_eq_true_eq, List.all_eq_true] at hfit2
  obtain ⟨hlv, hfl⟩ := hfit2
  obtain ⟨W0, hW0⟩ : ∃ W0, W0 = (((w.alloc (.cells #[.slice A0 l0.length c0, .slice A1 r2.length c1, .int .i64 r3] 27)).alloc (.cells #[.string s] 9)).alloc (.cells #[.slice none 0 0, .slice none 0 0, .int .i64 0] 27)) := ⟨_, rfl⟩
  have hsz0 : W0.heap.size = w.heap.size + 1 + 1 + 1 := by rw [hW0]; simp
  have hB0 : Below w.heap.size w W0 := by rw [hW0]; exact (((Below.refl _ w).alloc (Nat.le_refl _) _).alloc (by simp) _).alloc (by simp; omega) _
  have hr0' : W0.heap[w.heap.size + 1 + 1]? = some (.cells #[.slice none 0 0, .slice none 0 0, .int .i64 0] 27 (0, 0)) := by
    have h9 := heap_alloc_new ((w.alloc (.cells #[.slice A0 l0.length c0, .slice A1 r2.length c1, .int .i64 r3] 27)).alloc (.cells #[.string s] 9)) (.cells #[.slice none 0 0, .slice none 0 0, .int .i64 0] 27)
    rw [← hW0] at h9
    simpa using h9
  have hn0 : W0.heap[w.heap.size + 1]? = some (.cells #[.string s] 9 (0, 0)) := by
    have h9 := heap_alloc_new (w.alloc (.cells #[.slice A0 l0.length c0, .slice A1 r2.length c1, .int .i64 r3] 27)) (.cells #[.string s] 9)
    rw [hW0, Below.heap_alloc _ _ _ (by simp)]
    simpa using h9
  have hs0 : W0.heap[w.heap.size]? = some (.cells #[.slice A0 l0.length c0, .slice A1 r2.length c1, .int .i64 r3] 27 (0, 0)) := by
    have h9 := heap_alloc_new w (.cells #[.slice A0 l0.length c0, .slice A1 r2.length c1, .int .i64 r3] 27)
    rw [hW0, Below.heap_alloc _ _ _ (by simp; omega), Below.heap_alloc _ _ _ (by simp)]
    exact h9
  have HW0 := Lib.hid hW0
  clear hW0
  go_enter Tryd.func15, Tryd.ntmps15
  go_wp2_with fail
  rw [← HW0.out]
  refine (cloneS_calls A1 c1 r2 W0 (Kd.C_below hr1 hB0) hc1 hl1).mono ?_
  rintro e w1 ⟨v1, rfl, hR1, hb1⟩
  obtain ⟨B1, d1, rfl⟩ := Kd.R_slice hR1
  have hs1 := (hb1.block _ (show w.heap.size < W0.heap.size by omega)).trans hs0
  have hn1 := (hb1.block _ (show w.heap.size + 1 < W0.heap.size by omega)).trans hn0
  have hr1' := (hb1.block _ (show w.heap.size + 1 + 1 < W0.heap.size by omega)).trans hr0'
  obtain ⟨W2, hW2⟩ : ∃ W2, W2 = w1.setCell ⟨w.heap.size, 1, none⟩ (.slice B1 r2.length d1) := ⟨_, rfl⟩
  have hs2 : W2.heap[w.heap.size]? = some (.cells #[.slice A0 l0.length c0, .slice B1 r2.length d1, .int .i64 r3] 27 (0, 0)) := by
    rw [hW2]
    exact heap_setCell_same w1 w.heap.size 1 _ _ _ hs1
  have hoth2 : ∀ k, k ≠ w.heap.size → W2.heap[k]? = w1.heap[k]? := fun k hk => by
    rw [hW2]
    exact Below.heap_setCell w1 ⟨w.heap.size, 1, none⟩ _ k hk
  have hn2 := (hoth2 (w.heap.size + 1) (by omega)).trans hn1
  have hr2 := (hoth2 (w.heap.size + 1 + 1) (by omega)).trans hr1'
  have hsz2 : W2.heap.size = w1.heap.size := by rw [hW2]; simp
  have hB1 : Below w.heap.size w w1 := hB0.trans (hb1.mono (by omega))
  have hB2 : Below w.heap.size w W2 := by rw [hW2]; exact hB1.setCell (p := ⟨w.heap.size, 1, none⟩) (Nat.le_refl _) _
  have hx0 : w1.cell? ⟨w.heap.size, 0, none⟩ = some (.slice A0 l0.length c0) := by unfold World.cell?; rw [hs1]; rfl
  have hx1 : w1.cell? ⟨w.heap.size, 1, none⟩ = some (.slice A1 r2.length c1) := by unfold World.cell?; rw [hs1]; rfl
  have hf1 : w1.frozen? ⟨w.heap.size, 1, none⟩ = false := frozen_rowV hs1 1
  have hy0 : (w1.setCell ⟨w.heap.size, 1, none⟩ (.slice B1 r2.length d1)).cell? ⟨w.heap.size, 0, none⟩ = some (.slice A0 l0.length c0) := by rw [← hW2]; unfold World.cell?; rw [hs2]; rfl
  have HR1 := Lib.hid hR1
  have HW2 := Lib.hid hW2
  have HO2 := Lib.hid hoth2
  clear hW2 hR1 hoth2
  go_wp2_with fail
  rw [← HW2.out]
  refine (own_calls A0 c0 l0 W2 (Kd.C_below hr0 hB2) hc0 hlv hfl).mono ?_
  rintro e w3 ⟨v0, rfl, hS3, hb3⟩
  have hn3 := (hb3.block _ (show w.heap.size + 1 < W2.heap.size by have := hb1.size; omega)).trans hn2
  have hs3 := (hb3.block _ (show w.heap.size < W2.heap.size by have := hb1.size; omega)).trans hs2
  have hr3 := (hb3.block _ (show w.heap.size + 1 + 1 < W2.heap.size by have := hb1.size; omega)).trans hr2
  have HS3 := Lib.hid hS3
  have HB3 := Lib.hid hb3
  have HB1 := Lib.hid hb1
  clear hS3 hb3 hx0 hx1 hf1 hy0
  go_wp2_with fail
  have hlt2 : w.heap.size + 1 + 1 < W2.heap.size := by have := HB1.out.size; omega
  refine (unset_row (w.heap.size + 1) s W2.heap.size v0 l0 w3 HS3.out hlv HB3.out.size (by omega) (by unfold World.cell?; rw [hn3]; rfl)).mono ?_
  rintro e w4 ⟨v4, rfl, hS4, hb4⟩
  obtain ⟨A4, c4, rfl, _, _⟩ := Kd.S_reads hS4
  have hs4 := (hb4.block _ (show w.heap.size < W2.heap.size by omega)).trans hs3
  have hr4 := (hb4.block _ hlt2).trans hr3
  obtain ⟨W5, hW5⟩ : ∃ W5, W5 = w4.setCell ⟨w.heap.size, 0, none⟩ (.slice A4 (unsetB l0 s).length c4) := ⟨_, rfl⟩
  have hs5 : W5.heap[w.heap.size]? = some (.cells #[.slice A4 (unsetB l0 s).length c4, .slice B1 r2.length d1, .int .i64 r3] 27 (0, 0)) := by
    rw [hW5]
    exact heap_setCell_same w4 w.heap.size 0 _ _ _ hs4
  have hr5 : W5.heap[w.heap.size + 1 + 1]? = some (.cells #[.slice none 0 0, .slice none 0 0, .int .i64 0] 27 (0, 0)) := by
    rw [hW5, Below.heap_setCell w4 ⟨w.heap.size, 0, none⟩ _ _ (by simp; omega)]
    exact hr4
  have hx0 : w4.cell? ⟨w.heap.size, 0, none⟩ = some (.slice A0 l0.length c0) := by unfold World.cell?; rw [hs4]; rfl
  have hf0 : w4.frozen? ⟨w.heap.size, 0, none⟩ = false := frozen_rowV hs4 0
  have hy0 : (w4.setCell ⟨w.heap.size, 0, none⟩ (.slice A4 (unsetB l0 s).length c4)).cell? ⟨w.heap.size, 0, none⟩ = some (.slice A4 (unsetB l0 s).length c4) := by rw [← hW5]; unfold World.cell?; rw [hs5]; rfl
  have hy1 : (w4.setCell ⟨w.heap.size, 0, none⟩ (.slice A4 (unsetB l0 s).length c4)).cell? ⟨w.heap.size, 1, none⟩ = some (.slice B1 r2.length d1) := by rw [← hW5]; unfold World.cell?; rw [hs5]; rfl
  have hy2 : (w4.setCell ⟨w.heap.size, 0, none⟩ (.slice A4 (unsetB l0 s).length c4)).cell? ⟨w.heap.size, 2, none⟩ = some (.int .i64 r3) := by rw [← hW5]; unfold World.cell?; rw [hs5]; rfl
  have hz0 : (w4.setCell ⟨w.heap.size, 0, none⟩ (.slice A4 (unsetB l0 s).length c4)).cell? ⟨w.heap.size + 1 + 1, 0, none⟩ = some (.slice none 0 0) := by rw [← hW5]; unfold World.cell?; rw [hr5]; rfl
  have hz1 : (w4.setCell ⟨w.heap.size, 0, none⟩ (.slice A4 (unsetB l0 s).length c4)).cell? ⟨w.heap.size + 1 + 1, 1, none⟩ = some (.slice none 0 0) := by rw [← hW5]; unfold World.cell?; rw [hr5]; rfl
  have hz2 : (w4.setCell ⟨w.heap.size, 0, none⟩ (.slice A4 (unsetB l0 s).length c4)).cell? ⟨w.heap.size + 1 + 1, 2, none⟩ = some (.int .i64 0) := by rw [← hW5]; unfold World.cell?; rw [hr5]; rfl
  have hf5 : ∀ o, (w4.setCell ⟨w.heap.size, 0, none⟩ (.slice A4 (unsetB l0 s).length c4)).frozen? ⟨w.heap.size + 1 + 1, o, none⟩ = false := fun o => by rw [← hW5]; exact frozen_rowV hr5 o
  have HS4 := Lib.hid hS4
  have HB4 := Lib.hid hb4
  have HW5 := Lib.hid hW5
  clear hS4 hb4 hW5
  go_wp2_with fail
  rw [← HW5.out]
  obtain ⟨W6, hW6⟩ : ∃ W6, W6 = ((W5.setCell ⟨w.heap.size + 1 + 1, 0, none⟩ (.slice A4 (unsetB l0 s).length c4)).setCell ⟨w.heap.size + 1 + 1, 1, none⟩ (.slice B1 r2.length d1)).setCell ⟨w.heap.size + 1 + 1, 2, none⟩ (.int .i64 r3) := ⟨_, rfl⟩
  have hr6 : W6.heap[w.heap.size + 1 + 1]? = some (.cells #[.slice A4 (unsetB l0 s).length c4, .slice B1 r2.length d1, .int .i64 r3] 27 (0, 0)) := by
    rw [hW6]
    exact heap_setCell_same _ _ 2 _ _ _ (heap_setCell_same _ _ 1 _ _ _ (heap_setCell_same _ _ 0 _ _ _ hr5))
  have hoth6 : ∀ k, k ≠ w.heap.size → k ≠ w.heap.size + 1 + 1 → W6.heap[k]? = w4.heap[k]? := fun k h1 h2 => by
    rw [hW6, Below.heap_setCell _ ⟨w.heap.size + 1 + 1, 2, none⟩ _ k h2, Below.heap_setCell _ ⟨w.heap.size + 1 + 1, 1, none⟩ _ k h2, Below.heap_setCell _ ⟨w.heap.size + 1 + 1, 0, none⟩ _ k h2, HW5.out, Below.heap_setCell _ ⟨w.heap.size, 0, none⟩ _ k h1]
  have hw4 : Below w.heap.size w w4 := (hB2.trans (HB3.out.mono (by omega))).trans (HB4.out.mono (by omega))
  have hB6 : Below w.heap.size w W6 := by
    rw [hW6, HW5.out]
    exact (((hw4.setCell (p := ⟨w.heap.size, 0, none⟩) (Nat.le_refl _) _).setCell (p := ⟨w.heap.size + 1 + 1, 0, none⟩) (by show w.heap.size ≤ w.heap.size + 1 + 1; omega) _).setCell (p := ⟨w.heap.size + 1 + 1, 1, none⟩) (by show w.heap.size ≤ w.heap.size + 1 + 1; omega) _).setCell (p := ⟨w.heap.size + 1 + 1, 2, none⟩) (by show w.heap.size ≤ w.heap.size + 1 + 1; omega) _
  rw [← hW6]
  refine bodyPost_ret (results_cell_row rfl _ _ (w.heap.size + 1 + 1) 27 #[.slice A4 (unsetB l0 s).length c4, .slice B1 r2.length d1, .int .i64 r3] (0, 0) _ rfl hr6 Tryd.underlying27 rfl (by kernel_rfl)) rfl ?_
  refine ⟨.slice A4 (unsetB l0 s).length c4, .slice B1 r2.length d1, rfl, ?_, ?_, hB6⟩
  · obtain ⟨f, hS⟩ := HS4.out
    have h1 := Kd.R_move (w1 := W6) (Kd.R_bound hS) (fun k hk => hoth6 k (by have := hk.2.1; omega) (by have := hk.2.1; omega))
    refine ⟨f, Kd.R_lower (Kd.R_mono h1 (fun k hk e => ?_)) (by omega)⟩
    have h2 := own_lt (Kd.own_of_R HR1.out) k e.symm
    have h3 := hk.2.1
    omega
  · refine Kd.R_lower (Kd.R_mono (Kd.R_move (w1 := W6) (Kd.R_bound HR1.out) (fun k hk => ?_)) (fun _ _ => trivial)) (by omega)
    have h1 := hk.2.1
    have h2 := hk.2.2.1
    rw [hoth6 k (by omega) (by omega), HB4.out.block k (by omega), HB3.out.block k (by omega), HO2.out k (by omega)]
end Go.Proofs.YteoimkgjngdkdaaDoor.Ext

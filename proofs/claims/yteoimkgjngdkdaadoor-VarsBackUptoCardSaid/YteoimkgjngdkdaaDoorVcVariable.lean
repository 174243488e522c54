/- Proved: vars.variable's call tells true at a variable that may be. -/
import Derived.Test.YteoimkgjngdkdaaDoorVcTextsV
set_option linter.unusedVariables false
set_option linter.unusedSimpArgs false
namespace Go.Proofs.YteoimkgjngdkdaaDoor.Ext
open Go.RowKit Go.Shelf Go.Proofs.YteoimkgjngdkdaaDoorW.PrintWords Go.Proofs.YteoimkgjngdkdaaDoor.P
/-- May a variable be? -/
def okV (p : S53) : Bool := (octets_Name.f p.f0 == some true) && okT p.f1 && p.f3.all okT && decide (p.f3.length ≤ 1024) && (!p.f2 || decide (p.f1.size = 0)) && (p.f2 || decide (p.f3.length = 0))
theorem one_string (w : World) (t : ByteArray) : Kd.C Kd.string (w.alloc (.cells #[.string t] 9)) (some ⟨w.heap.size, 0, none⟩) 1 [t] := by
  refine Kd.C_of_reads (d := ByteArray.empty) ⟨rfl, by omega, fun _ => ⟨_, rfl, fun j hj => ?_⟩⟩
  obtain rfl : j = 0 := by omega
  exact (blk_cell (heap_alloc_new w _) 0).trans rfl
set_option maxHeartbeats 4000000 in
set_option maxRecDepth 100000 in
theorem variable_calls (p : S53) (A : Option Addr) (c : Nat) (w : World) (hr : Kd.C Kd.string w A p.f3.length p.f3) (hc : p.f3.length ≤ c) (h : okV p = true) :
    Calls Tryd.prog 42 #[.agg #[.string p.f0, .string p.f1, .bool p.f2, .slice A p.f3.length c]] w fun e w' => e = .returned (.bool true) ∧ Below w.heap.size w w' := by
  unfold okV at h
  simp only [Bool.and_eq_true, decide_eq_true_eq, beq_iff_eq] at h
  obtain ⟨⟨⟨⟨⟨h1, h2⟩, h3⟩, h4⟩, h5⟩, h6⟩ := h
  rw [List.all_eq_true] at h3
  have H1 := Lib.hid h1
  have H2 := Lib.hid h2
  have H3 := Lib.hid h3
  have HR := Lib.hid hr
  clear h1 h2 h3 hr
  obtain ⟨n, t, b, l⟩ := p
  dsimp only at *
  cases b
  · simp only [Bool.false_or, decide_eq_true_eq] at h6
    obtain rfl := List.eq_nil_of_length_eq_zero h6
    clear h5 h6 h4
    go_enter Tryd.func42, Tryd.ntmps42
    go_wp2_with fail
    have HB0 := Lib.hid ((Below.refl _ w).alloc (Nat.le_refl _) (.cells #[.string n, .string t, .bool false, .slice A 0 c] 53))
    refine (octets_Name.calls n true _ H1.out).mono ?_
    rintro e w2 ⟨rfl, hb2⟩
    have hk2 : w2.heap[w.heap.size]? = some (.cells #[.string n, .string t, .bool false, .slice A 0 c] 53 (0, 0)) := (hb2.block w.heap.size (by simp)).trans (heap_alloc_new w _)
    have x20 := (blk_cell hk2 0).trans rfl
    have x21 := (blk_cell hk2 1).trans rfl
    have x22 := (blk_cell hk2 2).trans rfl
    have x23 := (blk_cell hk2 3).trans rfl
    have HK2 := Lib.hid hk2
    have HB2 := Lib.hid (HB0.out.trans (hb2.mono HB0.out.size))
    clear hb2 hk2
    go_wp2_with fail
    have ho := (one_string w2 t)
    have HW3 := Lib.hid ((Below.refl _ w2).alloc (Nat.le_refl _) (.cells #[.string t] 9))
    refine (texts_calls _ _ [t] _ ho (Nat.le_refl _) (by simp) (by intro x hx; rw [List.mem_singleton.1 hx]; exact H2.out)).mono ?_
    rintro e w4 ⟨rfl, hb4⟩
    have hb24 := HW3.out.trans (hb4.mono HW3.out.size)
    have hk4 := blk_below HK2.out hb24
    clear x20 x21 x22 x23 ho
    have x40 := (blk_cell hk4 0).trans rfl
    have x41 := (blk_cell hk4 1).trans rfl
    have x42 := (blk_cell hk4 2).trans rfl
    have x43 := (blk_cell hk4 3).trans rfl
    have HK4 := Lib.hid hk4
    have HB4 := Lib.hid (HB2.out.trans (hb24.mono HB2.out.size))
    clear hb4 hb24 hk4 HK2 HW3
    go_wp2_with fail
    refine (texts_calls A c [] _ (Kd.C_below HR.out HB4.out) hc (by first | (simp; done) | omega) H3.out).mono ?_
    rintro e w6 ⟨rfl, hb6⟩
    have hk6 := blk_below HK4.out hb6
    clear x40 x41 x42 x43
    have x60 := (blk_cell hk6 0).trans rfl
    have x61 := (blk_cell hk6 1).trans rfl
    have x62 := (blk_cell hk6 2).trans rfl
    have x63 := (blk_cell hk6 3).trans rfl
    have HB6 := Lib.hid (HB4.out.trans (hb6.mono HB4.out.size))
    clear hb6 hk6 HK4
    go_wp2_with fail
    go_ret
    exact ⟨rfl, HB6.out⟩
  · simp only [Bool.not_true, Bool.false_or, decide_eq_true_eq] at h5
    obtain rfl : t = ⟨#[]⟩ := by
      obtain ⟨⟨d⟩⟩ := t
      cases d with
      | nil => rfl
      | cons a b => simp [ByteArray.size] at h5
    clear h5 h6
    go_enter Tryd.func42, Tryd.ntmps42
    go_wp2_with fail
    have HB0 := Lib.hid ((Below.refl _ w).alloc (Nat.le_refl _) (.cells #[.string n, .string ⟨#[]⟩, .bool true, .slice A l.length c] 53))
    refine (octets_Name.calls n true _ H1.out).mono ?_
    rintro e w2 ⟨rfl, hb2⟩
    have hk2 : w2.heap[w.heap.size]? = some (.cells #[.string n, .string ⟨#[]⟩, .bool true, .slice A l.length c] 53 (0, 0)) := (hb2.block w.heap.size (by simp)).trans (heap_alloc_new w _)
    have x20 := (blk_cell hk2 0).trans rfl
    have x21 := (blk_cell hk2 1).trans rfl
    have x22 := (blk_cell hk2 2).trans rfl
    have x23 := (blk_cell hk2 3).trans rfl
    have HK2 := Lib.hid hk2
    have HB2 := Lib.hid (HB0.out.trans (hb2.mono HB0.out.size))
    clear hb2 hk2
    go_wp2_with fail
    have ho := (one_string w2 ⟨#[]⟩)
    have HW3 := Lib.hid ((Below.refl _ w2).alloc (Nat.le_refl _) (.cells #[.string ⟨#[]⟩] 9))
    refine (texts_calls _ _ [⟨#[]⟩] _ ho (Nat.le_refl _) (by simp) (by intro x hx; rw [List.mem_singleton.1 hx]; exact H2.out)).mono ?_
    rintro e w4 ⟨rfl, hb4⟩
    have hb24 := HW3.out.trans (hb4.mono HW3.out.size)
    have hk4 := blk_below HK2.out hb24
    clear x20 x21 x22 x23 ho
    have x40 := (blk_cell hk4 0).trans rfl
    have x41 := (blk_cell hk4 1).trans rfl
    have x42 := (blk_cell hk4 2).trans rfl
    have x43 := (blk_cell hk4 3).trans rfl
    have HK4 := Lib.hid hk4
    have HB4 := Lib.hid (HB2.out.trans (hb24.mono HB2.out.size))
    clear hb4 hb24 hk4 HK2 HW3
    go_wp2_with fail
    refine (texts_calls A c l _ (Kd.C_below HR.out HB4.out) hc (by first | (simp; done) | omega) H3.out).mono ?_
    rintro e w6 ⟨rfl, hb6⟩
    have hk6 := blk_below HK4.out hb6
    clear x40 x41 x42 x43
    have x60 := (blk_cell hk6 0).trans rfl
    have x61 := (blk_cell hk6 1).trans rfl
    have x62 := (blk_cell hk6 2).trans rfl
    have x63 := (blk_cell hk6 3).trans rfl
    have HB6 := Lib.hid (HB4.out.trans (hb6.mono HB4.out.size))
    clear hb6 hk6 HK4
    go_wp2_with fail
    go_ret
    exact ⟨rfl, HB6.out⟩
end Go.Proofs.YteoimkgjngdkdaaDoor.Ext

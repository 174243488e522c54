/- Proved: arith.text's calls at an expression of an operator. Conditions as in the text ahead of it. Proved: arith.text's calls at ?:, at operators of one, at steps. Conditions as in the text ahead of it. Proved: arith.text's calls at operators of one, at steps; at any expression that may be. Conditions as in the text ahead of it. -/
import Derived.Test.YtlbgnpllbogkeaaDoorVkArText
import Derived.Test.YtlbgnpllbogkeaaDoorVkArLawClosed
import Derived.Deep.RegionHeld3
import Derived.Deep.RegionLaw
section
set_option linter.unusedVariables false
set_option linter.unusedSimpArgs false
namespace Go.Proofs.YtlbgnpllbogkeaaDoor.Ext
open Go.RowKit Go.Proofs.YtlbgnpllbogkeaaDoorW.PrintWords
set_option maxHeartbeats 8000000 in
theorem text_bin {op : ByteArray} {a b : E} (ca : ClosedC a) (cb : ClosedC b) (h0 : ¬ op.size = 0) (h1 : ¬ op = sNeg) (h2 : inL singlesL op = false) (h3 : preOf op = false) (h4 : postOf op = false) (h5 : ¬ op = sTern) : TextC (bi op a b) := by
  intro A c w ok h hT ha hn hl
  have hka := (allF_inv ha).2 a List.mem_cons_self
  have hkb := (allF_inv ha).2 b (List.mem_cons_of_mem _ (List.mem_singleton.2 rfl))
  have hna := hn.kid (k := a) List.mem_cons_self
  have hnb := hn.kid (k := b) (List.mem_cons_of_mem _ (List.mem_singleton.2 rfl))
  have htx : textF (bi op a b) = closedF a ++ 32 :: (op.data.toList ++ 32 :: closedF b) := by
    rw [textF_eq]
    exact textK_bin h0 h1 h2 h3 h4 h5
  rw [htx] at hl
  simp only [List.length_append, List.length_cons] at hl
  rw [← clB_size, ← clB_size, ← Lib.size_eq] at hl
  have e9 : txB (bi op a b) = clB a ++ ⟨#[32]⟩ ++ op ++ ⟨#[32]⟩ ++ clB b := by
    apply ba_eq
    simp only [app_list]
    show textF (bi op a b) = _
    rw [htx]
    simp only [List.append_assoc]
    rfl
  rw [e9]
  have hb0 := (Below.refl _ w).alloc (Nat.le_refl _) (.cells #[.string op, .string em, .int .i64 0, .slice A 2 c] 25)
  have b0 := Bx.new w #[.string op, .string em, .int .i64 0, .slice A 2 c]
  obtain ⟨w0, hw0⟩ : ∃ w0, w0 = w.alloc (.cells #[.string op, .string em, .int .i64 0, .slice A 2 c] 25) := ⟨_, rfl⟩
  rw [← hw0] at hb0 b0
  have HS := Lib.hid (h.bel hb0)
  have HX := Lib.hid b0
  have HT := Lib.hid (hT.below hb0)
  have HB := Lib.hid hb0
  have HI := Lib.hid (in_calls _ _ op w0 set_singles HT.out)
  rw [h2] at HI
  have HP1 := Lib.hid (fun W => show Calls Tryd.prog 43 #[.string op, .string ⟨#[112, 114, 101]⟩] W fun e w' => e = .returned (.bool false) ∧ w' = W from by
    rw [← h3]
    exact Tryd.strings_HasPrefix op ⟨#[112, 114, 101]⟩ W)
  have HP2 := Lib.hid (fun W => show Calls Tryd.prog 43 #[.string op, .string ⟨#[112, 111, 115, 116]⟩] W fun e w' => e = .returned (.bool false) ∧ w' = W from by
    rw [← h4]
    exact Tryd.strings_HasPrefix op ⟨#[112, 111, 115, 116]⟩ W)
  have HCA := Lib.hid (fun (W : World) (hW : Below w0.heap.size w0 W) (A1 : Option Addr) (c1 : Nat) hS => ca A1 c1 W ok hS (HT.out.below hW) hka hna (by rw [← clB_size]; omega))
  have HCB := Lib.hid (fun (W : World) (hW : Below w0.heap.size w0 W) (A1 : Option Addr) (c1 : Nat) hS => cb A1 c1 W ok hS (HT.out.below hW) hkb hnb (by rw [← clB_size]; omega))
  have e1 := emp_false h0
  have e2 := op_ne h1
  have e3 := op_ne h5
  replace e2 : (op.toList == [110, 101, 103]) = false := e2
  replace e3 : (op.toList == [63, 58]) = false := e3
  generalize hca : clB a = ta at *
  generalize hcb : clB b = tb at *
  have hc1 : ta.size + (⟨#[32]⟩ : ByteArray).size ≤ 9223372036854775807 := by show ta.size + 1 ≤ _; omega
  have hc2 : (ta ++ ⟨#[32]⟩).size + op.size ≤ 9223372036854775807 := by rw [app_size]; show ta.size + 1 + op.size ≤ _; omega
  have hc3 : (ta ++ ⟨#[32]⟩ ++ op).size + (⟨#[32]⟩ : ByteArray).size ≤ 9223372036854775807 := by rw [app_size, app_size]; show ta.size + 1 + op.size + 1 ≤ _; omega
  have hc4 : (ta ++ ⟨#[32]⟩ ++ op ++ ⟨#[32]⟩).size + tb.size ≤ 9223372036854775807 := by rw [app_size, app_size, app_size]; show ta.size + 1 + op.size + 1 + tb.size ≤ _; omega
  have hs1 : ¬ 9223372036854775807 < ta.size + 1 := by omega
  have hs2 : ¬ 9223372036854775807 < ta.size + 1 + op.size := by omega
  have hs3 : ¬ 9223372036854775807 < ta.size + 1 + op.size + 1 := by omega
  have hs4 : ¬ 9223372036854775807 < ta.size + 1 + op.size + 1 + tb.size := by omega
  have mixed : Tryd.prog.follows Departure.mixedOrders = true := by kernel_rfl
  have HW := Lib.hid hw0
  clear h hT ha hn hl hka hkb hna hnb htx e9 hb0 b0 h0 h1 h2 h3 h4 h5 hca hcb hw0
  show Calls Tryd.prog 27 #[.agg #[.string op, .string em, .int .i64 0, .slice A 2 c]] w _
  obtain ⟨q0, q1, q2, q3, q4, q5, q6, q7⟩ := HX.out.all
  go_enter Tryd.func27, Tryd.ntmps27
  go_wp2_with fail
  rw [← HW.out]
  go_wp2_with fail
  refine HI.out.mono ?_
  rintro e w1 ⟨rfl, hb1⟩
  have HB1 := Lib.hid hb1
  clear hb1 q0 q1 q2 q3 q4 q5 q6 q7
  obtain ⟨q0, q1, q2, q3, q4, q5, q6, q7⟩ := (HX.out.bel HB1.out).all
  go_wp2_with fail
  refine (HP1.out w1).mono ?_
  rintro e w2 ⟨rfl, rfl⟩
  go_wp2_with fail
  refine (HP2.out w2).mono ?_
  rintro e w3 ⟨rfl, rfl⟩
  obtain ⟨ad, A1, c1, hAe, hS1, x0, x1, x2, x3⟩ := (HS.out.bel HB1.out).kid (j := 0) (k := a) rfl
  subst hAe
  obtain ⟨ad', A2, c2, hAe, hS2, v0, v1, v2, v3⟩ := (HS.out.bel HB1.out).kid (j := 1) (k := b) rfl
  obtain rfl := Option.some.inj hAe
  replace x0 : w3.cell? ad = some (.string a.op) := x0
  replace x1 : w3.cell? ⟨ad.block, ad.off + 1, none⟩ = some (.string a.name) := x1
  replace x2 : w3.cell? ⟨ad.block, ad.off + 2, none⟩ = some (.int .i64 a.num) := x2
  replace x3 : w3.cell? ⟨ad.block, ad.off + 3, none⟩ = some (.slice A1 a.kids.length c1) := x3
  replace v0 : w3.cell? ⟨ad.block, ad.off + 4, none⟩ = some (.string b.op) := v0
  replace v1 : w3.cell? ⟨ad.block, ad.off + 5, none⟩ = some (.string b.name) := v1
  replace v2 : w3.cell? ⟨ad.block, ad.off + 6, none⟩ = some (.int .i64 b.num) := v2
  replace v3 : w3.cell? ⟨ad.block, ad.off + 7, none⟩ = some (.slice A2 b.kids.length c2) := v3
  have HC1 := Lib.hid (fun (W : World) (hW : Below w3.heap.size w3 W) => HCA.out W (below_step HB1.out hW) A1 c1 (hS1.bel hW))
  have HC2 := Lib.hid (fun (W : World) (hW : Below w3.heap.size w3 W) => HCB.out W (below_step HB1.out hW) A2 c2 (hS2.bel hW))
  clear hS1 hS2 hAe
  go_wp2_with fail
  go_region_held3 (fun W => Below w3.heap.size w3 W ∧ W.cell? ⟨w.heap.size, 0, none⟩ = some (.string op) ∧ W.cell? ⟨w.heap.size, 3, none⟩ = some (.slice (some ad) 2 c) ∧ (W.cell? ad = some (.string a.op) ∧ W.cell? ⟨ad.block, ad.off + 1, none⟩ = some (.string a.name) ∧ W.cell? ⟨ad.block, ad.off + 2, none⟩ = some (.int .i64 a.num) ∧ W.cell? ⟨ad.block, ad.off + 3, none⟩ = some (.slice A1 a.kids.length c1)) ∧
      (W.cell? ⟨ad.block, ad.off + 4, none⟩ = some (.string b.op) ∧ W.cell? ⟨ad.block, ad.off + 5, none⟩ = some (.string b.name) ∧ W.cell? ⟨ad.block, ad.off + 6, none⟩ = some (.int .i64 b.num) ∧ W.cell? ⟨ad.block, ad.off + 7, none⟩ = some (.slice A2 b.kids.length c2)))
    (first
      | (with_reducible exact ⟨below_drew (Below.refl _ w3), q0, q3, ⟨x0, x1, x2, x3⟩, ⟨v0, v1, v2, v3⟩⟩)
      | (exact ⟨below_drew (Below.refl _ w3), q0, q3, ⟨x0, x1, x2, x3⟩, ⟨v0, v1, v2, v3⟩⟩)
      | (exact ⟨HB12.out, cell_kept HB12.out q0, cell_kept HB12.out q3, ⟨cell_kept HB12.out x0, cell_kept HB12.out x1, cell_kept HB12.out x2, cell_kept HB12.out x3⟩, ⟨cell_kept HB12.out v0, cell_kept HB12.out v1, cell_kept HB12.out v2, cell_kept HB12.out v3⟩⟩)
      | (exact ⟨HB11.out, cell_kept HB11.out q0, cell_kept HB11.out q3, ⟨cell_kept HB11.out x0, cell_kept HB11.out x1, cell_kept HB11.out x2, cell_kept HB11.out x3⟩, ⟨cell_kept HB11.out v0, cell_kept HB11.out v1, cell_kept HB11.out v2, cell_kept HB11.out v3⟩⟩))
    (first
      | (go_simp; go_at_call 42; (with_reducible refine (HC1.out _ (by first | exact Below.refl _ _ | exact (Below.refl _ _).drew)).mono ?_); rintro e11 w11 ⟨rfl, hb11⟩
         have HB11 := Lib.hid (below_step (below_drew (Below.refl _ w3)) hb11)
         dsimp only)
      | (go_simp; go_at_call 42; (with_reducible refine (HC2.out _ HB11.out).mono ?_); rintro e12 w12 ⟨rfl, hb12⟩
         have HB12 := Lib.hid (below_step HB11.out hb12)
         dsimp only))
  all_goals (
    have HB13 := Lib.hid (below_step HB.out (below_step HB1.out HB12.out))
    go_wp2_with fail
    go_ret
    exact ⟨rfl, HB13.out⟩)
end Go.Proofs.YtlbgnpllbogkeaaDoor.Ext
end

section
set_option linter.unusedVariables false
set_option linter.unusedSimpArgs false
namespace Go.Proofs.YtlbgnpllbogkeaaDoor.Ext
open Go.RowKit Go.Proofs.YtlbgnpllbogkeaaDoorW.PrintWords
set_option maxHeartbeats 8000000 in
theorem text_tern {a b d : E} (ca : ClosedC a) (cb : ClosedC b) (cd : ClosedC d) : TextC (.mk sTern em 0 [a, b, d]) := by
  intro A c w ok h hT ha hn hl
  have hka := (allF_inv ha).2 a List.mem_cons_self
  have hkb := (allF_inv ha).2 b (List.mem_cons_of_mem _ List.mem_cons_self)
  have hkd := (allF_inv ha).2 d (List.mem_cons_of_mem _ (List.mem_cons_of_mem _ (List.mem_singleton.2 rfl)))
  have hna := hn.kid (k := a) List.mem_cons_self
  have hnb := hn.kid (k := b) (List.mem_cons_of_mem _ List.mem_cons_self)
  have hnd := hn.kid (k := d) (List.mem_cons_of_mem _ (List.mem_cons_of_mem _ (List.mem_singleton.2 rfl)))
  have htx : textF (E.mk sTern em 0 [a, b, d]) = closedF a ++ 32 :: 63 :: 32 :: (closedF b ++ 32 :: 58 :: 32 :: closedF d) := by
    rw [textF_eq]
    exact textK_tern
  rw [htx] at hl
  simp only [List.length_append, List.length_cons] at hl
  rw [← clB_size, ← clB_size, ← clB_size] at hl
  have e9 : txB (E.mk sTern em 0 [a, b, d]) = clB a ++ ⟨#[32, 63, 32]⟩ ++ clB b ++ ⟨#[32, 58, 32]⟩ ++ clB d := by
    apply ba_eq
    simp only [app_list]
    show textF (E.mk sTern em 0 [a, b, d]) = _
    rw [htx]
    simp only [List.append_assoc]
    rfl
  rw [e9]
  have hb0 := (Below.refl _ w).alloc (Nat.le_refl _) (.cells #[.string sTern, .string em, .int .i64 0, .slice A 3 c] 25)
  have b0 := Bx.new w #[.string sTern, .string em, .int .i64 0, .slice A 3 c]
  obtain ⟨w0, hw0⟩ : ∃ w0, w0 = w.alloc (.cells #[.string sTern, .string em, .int .i64 0, .slice A 3 c] 25) := ⟨_, rfl⟩
  rw [← hw0] at hb0 b0
  have HS := Lib.hid (h.bel hb0)
  have HX := Lib.hid b0
  have HT := Lib.hid (hT.below hb0)
  have HB := Lib.hid hb0
  have HI := Lib.hid (in_calls _ _ sTern w0 set_singles HT.out)
  rw [show inL singlesL sTern = false by decide] at HI
  have HP1 := Lib.hid (fun W => show Calls Tryd.prog 43 #[.string sTern, .string ⟨#[112, 114, 101]⟩] W fun e w' => e = .returned (.bool false) ∧ w' = W from by
    rw [show false = preOf sTern by decide]
    exact Tryd.strings_HasPrefix sTern ⟨#[112, 114, 101]⟩ W)
  have HP2 := Lib.hid (fun W => show Calls Tryd.prog 43 #[.string sTern, .string ⟨#[112, 111, 115, 116]⟩] W fun e w' => e = .returned (.bool false) ∧ w' = W from by
    rw [show false = postOf sTern by decide]
    exact Tryd.strings_HasPrefix sTern ⟨#[112, 111, 115, 116]⟩ W)
  have HCA := Lib.hid (fun (W : World) (hW : Below w0.heap.size w0 W) (A1 : Option Addr) (c1 : Nat) hS => ca A1 c1 W ok hS (HT.out.below hW) hka hna (by rw [← clB_size]; omega))
  have HCB := Lib.hid (fun (W : World) (hW : Below w0.heap.size w0 W) (A1 : Option Addr) (c1 : Nat) hS => cb A1 c1 W ok hS (HT.out.below hW) hkb hnb (by rw [← clB_size]; omega))
  have HCD := Lib.hid (fun (W : World) (hW : Below w0.heap.size w0 W) (A1 : Option Addr) (c1 : Nat) hS => cd A1 c1 W ok hS (HT.out.below hW) hkd hnd (by rw [← clB_size]; omega))
  generalize hca : clB a = ta at *
  generalize hcb : clB b = tb at *
  generalize hcd : clB d = td at *
  have hs1 : ¬ 9223372036854775807 < ta.size + 3 := by omega
  have hs2 : ¬ 9223372036854775807 < ta.size + 3 + tb.size := by omega
  have hs3 : ¬ 9223372036854775807 < ta.size + 3 + tb.size + 3 := by omega
  have hs4 : ¬ 9223372036854775807 < ta.size + 3 + tb.size + 3 + td.size := by omega
  have mixed : Tryd.prog.follows Departure.mixedOrders = true := by kernel_rfl
  have HW := Lib.hid hw0
  clear h hT ha hn hl hka hkb hkd hna hnb hnd htx e9 hb0 b0 hca hcb hcd hw0
  show Calls Tryd.prog 27 #[.agg #[.string sTern, .string em, .int .i64 0, .slice A 3 c]] w _
  obtain ⟨q0, q1, q2, q3, q4, q5, q6, q7⟩ := HX.out.all
  go_enter Tryd.func27, Tryd.ntmps27
  go_wp2_with fail
  rw [← HW.out]
  go_wp2_with fail
  refine HI.out.mono ?_
  rintro e w1 ⟨rfl, hb1⟩
  have HB1 := Lib.hid hb1
  clear hb1 q0 q1 q2 q3 q4 q5 q6 q7
  obtain ⟨q0, q1, q2, q3, q4, q5, q6, q7⟩ := (HX.out.bel HB1.out).all
  go_wp2_with fail
  refine (HP1.out w1).mono ?_
  rintro e w2 ⟨rfl, rfl⟩
  go_wp2_with fail
  refine (HP2.out w2).mono ?_
  rintro e w3 ⟨rfl, rfl⟩
  obtain ⟨ad, A1, c1, hAe, hS1, x0, x1, x2, x3⟩ := (HS.out.bel HB1.out).kid (j := 0) (k := a) rfl
  subst hAe
  obtain ⟨ad', A2, c2, hAe, hS2, v0, v1, v2, v3⟩ := (HS.out.bel HB1.out).kid (j := 1) (k := b) rfl
  obtain rfl := Option.some.inj hAe
  obtain ⟨ad'', A3, c3, hAe2, hS3, u0, u1, u2, u3⟩ := (HS.out.bel HB1.out).kid (j := 2) (k := d) rfl
  obtain rfl := Option.some.inj hAe2
  replace x0 : w3.cell? ad = some (.string a.op) := x0
  replace x1 : w3.cell? ⟨ad.block, ad.off + 1, none⟩ = some (.string a.name) := x1
  replace x2 : w3.cell? ⟨ad.block, ad.off + 2, none⟩ = some (.int .i64 a.num) := x2
  replace x3 : w3.cell? ⟨ad.block, ad.off + 3, none⟩ = some (.slice A1 a.kids.length c1) := x3
  replace v0 : w3.cell? ⟨ad.block, ad.off + 4, none⟩ = some (.string b.op) := v0
  replace v1 : w3.cell? ⟨ad.block, ad.off + 5, none⟩ = some (.string b.name) := v1
  replace v2 : w3.cell? ⟨ad.block, ad.off + 6, none⟩ = some (.int .i64 b.num) := v2
  replace v3 : w3.cell? ⟨ad.block, ad.off + 7, none⟩ = some (.slice A2 b.kids.length c2) := v3
  replace u0 : w3.cell? ⟨ad.block, ad.off + 8, none⟩ = some (.string d.op) := u0
  replace u1 : w3.cell? ⟨ad.block, ad.off + 9, none⟩ = some (.string d.name) := u1
  replace u2 : w3.cell? ⟨ad.block, ad.off + 10, none⟩ = some (.int .i64 d.num) := u2
  replace u3 : w3.cell? ⟨ad.block, ad.off + 11, none⟩ = some (.slice A3 d.kids.length c3) := u3
  have HC3 := Lib.hid (fun (W : World) (hW : Below w3.heap.size w3 W) => HCD.out W (below_step HB1.out hW) A3 c3 (hS3.bel hW))
  have HC1 := Lib.hid (fun (W : World) (hW : Below w3.heap.size w3 W) => HCA.out W (below_step HB1.out hW) A1 c1 (hS1.bel hW))
  have HC2 := Lib.hid (fun (W : World) (hW : Below w3.heap.size w3 W) => HCB.out W (below_step HB1.out hW) A2 c2 (hS2.bel hW))
  clear hS1 hS2 hS3 hAe hAe2
  go_wp2_with fail
  go_region_held3 (fun W => Below w3.heap.size w3 W ∧ W.cell? ⟨w.heap.size, 3, none⟩ = some (.slice (some ad) 3 c) ∧ (W.cell? ad = some (.string a.op) ∧ W.cell? ⟨ad.block, ad.off + 1, none⟩ = some (.string a.name) ∧ W.cell? ⟨ad.block, ad.off + 2, none⟩ = some (.int .i64 a.num) ∧ W.cell? ⟨ad.block, ad.off + 3, none⟩ = some (.slice A1 a.kids.length c1)) ∧
      (W.cell? ⟨ad.block, ad.off + 4, none⟩ = some (.string b.op) ∧ W.cell? ⟨ad.block, ad.off + 5, none⟩ = some (.string b.name) ∧ W.cell? ⟨ad.block, ad.off + 6, none⟩ = some (.int .i64 b.num) ∧ W.cell? ⟨ad.block, ad.off + 7, none⟩ = some (.slice A2 b.kids.length c2)) ∧
      (W.cell? ⟨ad.block, ad.off + 8, none⟩ = some (.string d.op) ∧ W.cell? ⟨ad.block, ad.off + 9, none⟩ = some (.string d.name) ∧ W.cell? ⟨ad.block, ad.off + 10, none⟩ = some (.int .i64 d.num) ∧ W.cell? ⟨ad.block, ad.off + 11, none⟩ = some (.slice A3 d.kids.length c3)))
    (first
      | (with_reducible exact ⟨below_drew (Below.refl _ w3), q3, ⟨x0, x1, x2, x3⟩, ⟨v0, v1, v2, v3⟩, ⟨u0, u1, u2, u3⟩⟩)
      | (exact ⟨below_drew (Below.refl _ w3), q3, ⟨x0, x1, x2, x3⟩, ⟨v0, v1, v2, v3⟩, ⟨u0, u1, u2, u3⟩⟩)
      | (exact ⟨HB13.out, cell_kept HB13.out q3, ⟨cell_kept HB13.out x0, cell_kept HB13.out x1, cell_kept HB13.out x2, cell_kept HB13.out x3⟩, ⟨cell_kept HB13.out v0, cell_kept HB13.out v1, cell_kept HB13.out v2, cell_kept HB13.out v3⟩, ⟨cell_kept HB13.out u0, cell_kept HB13.out u1, cell_kept HB13.out u2, cell_kept HB13.out u3⟩⟩)
      | (exact ⟨HB12.out, cell_kept HB12.out q3, ⟨cell_kept HB12.out x0, cell_kept HB12.out x1, cell_kept HB12.out x2, cell_kept HB12.out x3⟩, ⟨cell_kept HB12.out v0, cell_kept HB12.out v1, cell_kept HB12.out v2, cell_kept HB12.out v3⟩, ⟨cell_kept HB12.out u0, cell_kept HB12.out u1, cell_kept HB12.out u2, cell_kept HB12.out u3⟩⟩)
      | (exact ⟨HB11.out, cell_kept HB11.out q3, ⟨cell_kept HB11.out x0, cell_kept HB11.out x1, cell_kept HB11.out x2, cell_kept HB11.out x3⟩, ⟨cell_kept HB11.out v0, cell_kept HB11.out v1, cell_kept HB11.out v2, cell_kept HB11.out v3⟩, ⟨cell_kept HB11.out u0, cell_kept HB11.out u1, cell_kept HB11.out u2, cell_kept HB11.out u3⟩⟩))
    (first
      | (go_simp; go_at_call 42; (with_reducible refine (HC1.out _ (by first | exact Below.refl _ _ | exact (Below.refl _ _).drew)).mono ?_); rintro e11 w11 ⟨rfl, hb11⟩
         have HB11 := Lib.hid (below_step (below_drew (Below.refl _ w3)) hb11)
         dsimp only)
      | (go_simp; go_at_call 42; (with_reducible refine (HC2.out _ HB11.out).mono ?_); rintro e12 w12 ⟨rfl, hb12⟩
         have HB12 := Lib.hid (below_step HB11.out hb12)
         dsimp only)
      | (go_simp; go_at_call 42; (with_reducible refine (HC3.out _ HB12.out).mono ?_); rintro e13 w13 ⟨rfl, hb13⟩
         have HB13 := Lib.hid (below_step HB12.out hb13)
         dsimp only))
  all_goals (
    have HB14 := Lib.hid (below_step HB.out (below_step HB1.out HB13.out))
    go_wp2_with fail
    go_ret
    exact ⟨rfl, HB14.out⟩)
end Go.Proofs.YtlbgnpllbogkeaaDoor.Ext
end

section
set_option linter.unusedVariables false
set_option linter.unusedSimpArgs false
namespace Go.Proofs.YtlbgnpllbogkeaaDoor.Ext
open Go.RowKit Go.Proofs.YtlbgnpllbogkeaaDoorW.PrintWords
set_option maxHeartbeats 4000000 in
theorem text_neg {a : E} (ca : ClosedC a) : TextC (un sNeg a) := by
  intro A c w ok h hT ha hn hl
  have hka := (allF_inv ha).2 a (List.mem_singleton.2 rfl)
  have hna := hn.kid (k := a) (List.mem_singleton.2 rfl)
  have htx : textF (un sNeg a) = 45 :: 32 :: closedF a := by
    rw [textF_eq]
    exact textK_neg
  rw [htx] at hl
  simp only [List.length_cons] at hl
  rw [← clB_size] at hl
  have e9 : txB (un sNeg a) = ⟨#[45, 32]⟩ ++ clB a := by
    apply ba_eq
    simp only [app_list]
    show textF (un sNeg a) = _
    rw [htx]
    rfl
  rw [e9]
  have hb0 := (Below.refl _ w).alloc (Nat.le_refl _) (.cells #[.string sNeg, .string em, .int .i64 0, .slice A 1 c] 25)
  have b0 := Bx.new w #[.string sNeg, .string em, .int .i64 0, .slice A 1 c]
  obtain ⟨w0, hw0⟩ : ∃ w0, w0 = w.alloc (.cells #[.string sNeg, .string em, .int .i64 0, .slice A 1 c] 25) := ⟨_, rfl⟩
  rw [← hw0] at hb0 b0
  have HS := Lib.hid (h.bel hb0)
  have HX := Lib.hid b0
  have HT := Lib.hid (hT.below hb0)
  have HB := Lib.hid hb0
  have mixed : Tryd.prog.follows Departure.mixedOrders = true := by kernel_rfl
  have HW := Lib.hid hw0
  have HB1 := Lib.hid (Below.refl w0.heap.size w0)
  obtain ⟨ad, A1, c1, hAe, hS1, x0, x1, x2, x3⟩ := (HS.out.bel HB1.out).kid (j := 0) (k := a) rfl
  subst hAe
  replace x0 : w0.cell? ad = some (.string a.op) := x0
  replace x1 : w0.cell? ⟨ad.block, ad.off + 1, none⟩ = some (.string a.name) := x1
  replace x2 : w0.cell? ⟨ad.block, ad.off + 2, none⟩ = some (.int .i64 a.num) := x2
  replace x3 : w0.cell? ⟨ad.block, ad.off + 3, none⟩ = some (.slice A1 a.kids.length c1) := x3
  have HCA := Lib.hid (ca A1 c1 w0 ok (hS1.bel (Below.refl _ _)) HT.out hka hna (by rw [← clB_size]; omega))
  rw [hw0] at x0 x1 x2 x3
  generalize hca : clB a = ta at *
  have hs1 : ¬ 9223372036854775807 < 2 + ta.size := by omega
  have hs2 : (⟨#[45, 32]⟩ : ByteArray).size + ta.size ≤ 9223372036854775807 := by show 2 + ta.size ≤ _; omega
  clear h hT ha hn hl hka hna htx e9 hb0 b0 hca hw0 hS1
  show Calls Tryd.prog 27 #[.agg #[.string sNeg, .string em, .int .i64 0, .slice (some ad) 1 c]] w _
  go_enter Tryd.func27, Tryd.ntmps27
  go_wp2_with fail
  rw [← HW.out]
  refine HCA.out.mono ?_
  rintro e w1 ⟨rfl, hb1⟩
  have HB2 := Lib.hid (below_step HB.out hb1)
  clear hb1
  go_wp2_with fail
  go_ret
  exact ⟨rfl, HB2.out⟩
set_option maxHeartbeats 4000000 in
theorem text_un {op : ByteArray} {a : E} (ca : ClosedC a) (h0 : ¬ op.size = 0) (h1 : ¬ op = sNeg) (h2 : inL singlesL op = true) : TextC (un op a) := by
  intro A c w ok h hT ha hn hl
  have hka := (allF_inv ha).2 a (List.mem_singleton.2 rfl)
  have hna := hn.kid (k := a) (List.mem_singleton.2 rfl)
  have htx : textF (un op a) = op.data.toList ++ 32 :: closedF a := by
    rw [textF_eq]
    exact textK_un h0 h1 h2
  rw [htx] at hl
  simp only [List.length_cons, List.length_append] at hl
  rw [← clB_size, ← Lib.size_eq] at hl
  have e9 : txB (un op a) = op ++ ⟨#[32]⟩ ++ clB a := by
    apply ba_eq
    simp only [app_list]
    show textF (un op a) = _
    rw [htx]
    simp only [List.append_assoc]
    rfl
  rw [e9]
  have hb0 := (Below.refl _ w).alloc (Nat.le_refl _) (.cells #[.string op, .string em, .int .i64 0, .slice A 1 c] 25)
  have b0 := Bx.new w #[.string op, .string em, .int .i64 0, .slice A 1 c]
  obtain ⟨w0, hw0⟩ : ∃ w0, w0 = w.alloc (.cells #[.string op, .string em, .int .i64 0, .slice A 1 c] 25) := ⟨_, rfl⟩
  rw [← hw0] at hb0 b0
  have HS := Lib.hid (h.bel hb0)
  have HX := Lib.hid b0
  have HT := Lib.hid (hT.below hb0)
  have HB := Lib.hid hb0
  have mixed : Tryd.prog.follows Departure.mixedOrders = true := by kernel_rfl
  have HW := Lib.hid hw0
  have HI := Lib.hid (in_calls _ _ op w0 set_singles HT.out)
  rw [h2] at HI
  have HCA := Lib.hid (fun (W : World) (hW : Below w0.heap.size w0 W) (A1 : Option Addr) (c1 : Nat) hS => ca A1 c1 W ok hS (HT.out.below hW) hka hna (by rw [← clB_size]; omega))
  have e1 := emp_false h0
  have e2 := op_ne h1
  replace e2 : (op.toList == [110, 101, 103]) = false := e2
  generalize hca : clB a = ta at *
  have hs1 : ¬ 9223372036854775807 < op.size + 1 := by omega
  have hs2 : ¬ 9223372036854775807 < op.size + 1 + ta.size := by omega
  clear h hT ha hn hl hka hna htx e9 hb0 b0 hca hw0 h0 h1 h2
  show Calls Tryd.prog 27 #[.agg #[.string op, .string em, .int .i64 0, .slice A 1 c]] w _
  obtain ⟨q0, q1, q2, q3, q4, q5, q6, q7⟩ := HX.out.all
  go_enter Tryd.func27, Tryd.ntmps27
  go_wp2_with fail
  rw [← HW.out]
  go_wp2_with fail
  refine HI.out.mono ?_
  rintro e w1 ⟨rfl, hb1⟩
  have HB1 := Lib.hid hb1
  clear hb1 q0 q1 q2 q3 q4 q5 q6 q7
  obtain ⟨q0, q1, q2, q3, q4, q5, q6, q7⟩ := (HX.out.bel HB1.out).all
  obtain ⟨ad, A1, c1, hAe, hS1, x0, x1, x2, x3⟩ := (HS.out.bel HB1.out).kid (j := 0) (k := a) rfl
  subst hAe
  replace x0 : w1.cell? ad = some (.string a.op) := x0
  replace x1 : w1.cell? ⟨ad.block, ad.off + 1, none⟩ = some (.string a.name) := x1
  replace x2 : w1.cell? ⟨ad.block, ad.off + 2, none⟩ = some (.int .i64 a.num) := x2
  replace x3 : w1.cell? ⟨ad.block, ad.off + 3, none⟩ = some (.slice A1 a.kids.length c1) := x3
  have HC1 := Lib.hid (fun (W : World) (hW : Below w1.heap.size w1 W) => HCA.out W (below_step HB1.out hW) A1 c1 (hS1.bel hW))
  clear hS1
  go_wp2_with fail
  go_region_held3 (fun W => Below w1.heap.size w1 W ∧ W.cell? ⟨w.heap.size, 0, none⟩ = some (.string op) ∧ W.cell? ⟨w.heap.size, 3, none⟩ = some (.slice (some ad) 1 c) ∧ (W.cell? ad = some (.string a.op) ∧ W.cell? ⟨ad.block, ad.off + 1, none⟩ = some (.string a.name) ∧ W.cell? ⟨ad.block, ad.off + 2, none⟩ = some (.int .i64 a.num) ∧ W.cell? ⟨ad.block, ad.off + 3, none⟩ = some (.slice A1 a.kids.length c1)))
    (first
      | (with_reducible exact ⟨below_drew (Below.refl _ w1), q0, q3, ⟨x0, x1, x2, x3⟩⟩)
      | (exact ⟨below_drew (Below.refl _ w1), q0, q3, ⟨x0, x1, x2, x3⟩⟩)
      | (exact ⟨HB11.out, cell_kept HB11.out q0, cell_kept HB11.out q3, ⟨cell_kept HB11.out x0, cell_kept HB11.out x1, cell_kept HB11.out x2, cell_kept HB11.out x3⟩⟩))
    (first
      | (go_simp; go_at_call 42; (with_reducible refine (HC1.out _ (by first | exact Below.refl _ _ | exact (Below.refl _ _).drew)).mono ?_); rintro e11 w11 ⟨rfl, hb11⟩
         have HB11 := Lib.hid (below_step (below_drew (Below.refl _ w1)) hb11)
         dsimp only))
  all_goals (
    have HB14 := Lib.hid (below_step HB.out (below_step HB1.out HB11.out))
    go_wp2_with fail
    go_ret
    exact ⟨rfl, HB14.out⟩)
set_option maxHeartbeats 4000000 in
theorem text_pre {op b : ByteArray} (h0 : ¬ op.size = 0) (h1 : ¬ op = sNeg) (h2 : inL singlesL op = false) (h3 : preOf op = true) (h5 : 4 ≤ op.size) (h6 : op.size ≤ 100) : TextC (un op (varE b)) := by
  intro A c w ok h hT ha hn hl
  have htx : textF (un op (varE b)) = op.data.toList.drop 3 ++ b.data.toList := by
    rw [textF_eq]
    exact textK_pre h0 h1 h2 h3
  rw [htx] at hl
  simp only [List.length_append] at hl
  rw [← Lib.size_eq] at hl
  have e9 : txB (un op (varE b)) = op.extract 3 op.size ++ b := by
    apply ba_eq
    simp only [app_list]
    show textF (un op (varE b)) = _
    rw [htx, tail_eq]
  rw [e9]
  have hb0 := (Below.refl _ w).alloc (Nat.le_refl _) (.cells #[.string op, .string em, .int .i64 0, .slice A 1 c] 25)
  have b0 := Bx.new w #[.string op, .string em, .int .i64 0, .slice A 1 c]
  obtain ⟨w0, hw0⟩ : ∃ w0, w0 = w.alloc (.cells #[.string op, .string em, .int .i64 0, .slice A 1 c] 25) := ⟨_, rfl⟩
  rw [← hw0] at hb0 b0
  have HS := Lib.hid (h.bel hb0)
  have HX := Lib.hid b0
  have HT := Lib.hid (hT.below hb0)
  have HB := Lib.hid hb0
  have mixed : Tryd.prog.follows Departure.mixedOrders = true := by kernel_rfl
  have HW := Lib.hid hw0
  have HI := Lib.hid (in_calls _ _ op w0 set_singles HT.out)
  rw [h2] at HI
  have HP1 := Lib.hid (fun W => show Calls Tryd.prog 43 #[.string op, .string ⟨#[112, 114, 101]⟩] W fun e w' => e = .returned (.bool true) ∧ w' = W from by
    rw [← h3]
    exact Tryd.strings_HasPrefix op ⟨#[112, 114, 101]⟩ W)
  have e1 := emp_false h0
  have e2 := op_ne h1
  replace e2 : (op.toList == [110, 101, 103]) = false := e2
  have hi1 : (3 : Int) ≤ (op.size : Int) := by omega
  have hi2 : (4 : Int) ≤ (op.size : Int) := by omega
  have hj1 : 3 ≤ op.size := by omega
  have hs1 : ¬ 9223372036854775807 < op.size - 3 + b.size := by omega
  have hs2 : (op.extract 3 op.size).size + b.size ≤ 9223372036854775807 := by rw [ByteArray.size_extract]; omega
  clear h hT ha hn hl htx e9 hb0 b0 hw0 h0 h1 h2 h3
  show Calls Tryd.prog 27 #[.agg #[.string op, .string em, .int .i64 0, .slice A 1 c]] w _
  obtain ⟨q0, q1, q2, q3, q4, q5, q6, q7⟩ := HX.out.all
  go_enter Tryd.func27, Tryd.ntmps27
  go_wp2_with fail
  rw [← HW.out]
  go_wp2_with fail
  refine HI.out.mono ?_
  rintro e w1 ⟨rfl, hb1⟩
  have HB1 := Lib.hid hb1
  clear hb1 q0 q1 q2 q3 q4 q5 q6 q7
  obtain ⟨q0, q1, q2, q3, q4, q5, q6, q7⟩ := (HX.out.bel HB1.out).all
  obtain ⟨ad, A1, c1, hAe, hS1, x0, x1, x2, x3⟩ := (HS.out.bel HB1.out).kid (j := 0) (k := varE b) rfl
  subst hAe
  replace x1 : w1.cell? ⟨ad.block, ad.off + 1, none⟩ = some (.string b) := x1
  clear x0 x2 x3 hS1
  go_wp2_with fail
  refine (HP1.out w1).mono ?_
  rintro e w2 ⟨rfl, rfl⟩
  go_wp2_with fail
  go_region_held3 (fun W => Below w2.heap.size w2 W ∧ W.cell? ⟨w.heap.size, 0, none⟩ = some (.string op) ∧ W.cell? ⟨w.heap.size, 3, none⟩ = some (.slice (some ad) 1 c) ∧ W.cell? ⟨ad.block, ad.off + 1, none⟩ = some (.string b))
    (first
      | (with_reducible exact ⟨below_drew (Below.refl _ w2), q0, q3, x1⟩)
      | (exact ⟨below_drew (Below.refl _ w2), q0, q3, x1⟩))
    (fail)
  all_goals (
    have HB14 := Lib.hid (below_step HB.out (below_step HB1.out (below_drew (Below.refl _ w2))))
    go_wp2_with fail
    go_ret
    exact ⟨rfl, HB14.out⟩)
set_option maxHeartbeats 4000000 in
theorem text_post {op b : ByteArray} (h0 : ¬ op.size = 0) (h1 : ¬ op = sNeg) (h2 : inL singlesL op = false) (h3 : preOf op = false) (h4 : postOf op = true) (h5 : 4 ≤ op.size) (h6 : op.size ≤ 100) : TextC (un op (varE b)) := by
  intro A c w ok h hT ha hn hl
  have htx : textF (un op (varE b)) = b.data.toList ++ op.data.toList.drop 4 := by
    rw [textF_eq]
    exact textK_post h0 h1 h2 h3 h4
  rw [htx] at hl
  simp only [List.length_append] at hl
  rw [← Lib.size_eq] at hl
  have e9 : txB (un op (varE b)) = b ++ op.extract 4 op.size := by
    apply ba_eq
    simp only [app_list]
    show textF (un op (varE b)) = _
    rw [htx, tail_eq]
  rw [e9]
  have hb0 := (Below.refl _ w).alloc (Nat.le_refl _) (.cells #[.string op, .string em, .int .i64 0, .slice A 1 c] 25)
  have b0 := Bx.new w #[.string op, .string em, .int .i64 0, .slice A 1 c]
  obtain ⟨w0, hw0⟩ : ∃ w0, w0 = w.alloc (.cells #[.string op, .string em, .int .i64 0, .slice A 1 c] 25) := ⟨_, rfl⟩
  rw [← hw0] at hb0 b0
  have HS := Lib.hid (h.bel hb0)
  have HX := Lib.hid b0
  have HT := Lib.hid (hT.below hb0)
  have HB := Lib.hid hb0
  have mixed : Tryd.prog.follows Departure.mixedOrders = true := by kernel_rfl
  have HW := Lib.hid hw0
  have HI := Lib.hid (in_calls _ _ op w0 set_singles HT.out)
  rw [h2] at HI
  have HP1 := Lib.hid (fun W => show Calls Tryd.prog 43 #[.string op, .string ⟨#[112, 114, 101]⟩] W fun e w' => e = .returned (.bool false) ∧ w' = W from by
    rw [← h3]
    exact Tryd.strings_HasPrefix op ⟨#[112, 114, 101]⟩ W)
  have HP2 := Lib.hid (fun W => show Calls Tryd.prog 43 #[.string op, .string ⟨#[112, 111, 115, 116]⟩] W fun e w' => e = .returned (.bool true) ∧ w' = W from by
    rw [← h4]
    exact Tryd.strings_HasPrefix op ⟨#[112, 111, 115, 116]⟩ W)
  have e1 := emp_false h0
  have e2 := op_ne h1
  replace e2 : (op.toList == [110, 101, 103]) = false := e2
  have hi1 : (3 : Int) ≤ (op.size : Int) := by omega
  have hi2 : (4 : Int) ≤ (op.size : Int) := by omega
  have hj1 : 3 ≤ op.size := by omega
  have hs1 : ¬ 9223372036854775807 < b.size + (op.size - 4) := by omega
  have hs2 : b.size + (op.extract 4 op.size).size ≤ 9223372036854775807 := by rw [ByteArray.size_extract]; omega
  clear h hT ha hn hl htx e9 hb0 b0 hw0 h0 h1 h2 h3 h4
  show Calls Tryd.prog 27 #[.agg #[.string op, .string em, .int .i64 0, .slice A 1 c]] w _
  obtain ⟨q0, q1, q2, q3, q4, q5, q6, q7⟩ := HX.out.all
  go_enter Tryd.func27, Tryd.ntmps27
  go_wp2_with fail
  rw [← HW.out]
  go_wp2_with fail
  refine HI.out.mono ?_
  rintro e w1 ⟨rfl, hb1⟩
  have HB1 := Lib.hid hb1
  clear hb1 q0 q1 q2 q3 q4 q5 q6 q7
  obtain ⟨q0, q1, q2, q3, q4, q5, q6, q7⟩ := (HX.out.bel HB1.out).all
  obtain ⟨ad, A1, c1, hAe, hS1, x0, x1, x2, x3⟩ := (HS.out.bel HB1.out).kid (j := 0) (k := varE b) rfl
  subst hAe
  replace x1 : w1.cell? ⟨ad.block, ad.off + 1, none⟩ = some (.string b) := x1
  clear x0 x2 x3 hS1
  go_wp2_with fail
  refine (HP1.out w1).mono ?_
  rintro e w2 ⟨rfl, rfl⟩
  go_wp2_with fail
  refine (HP2.out w2).mono ?_
  rintro e w3 ⟨rfl, rfl⟩
  go_wp2_with fail
  go_region_held3 (fun W => Below w3.heap.size w3 W ∧ W.cell? ⟨w.heap.size, 0, none⟩ = some (.string op) ∧ W.cell? ⟨w.heap.size, 3, none⟩ = some (.slice (some ad) 1 c) ∧ W.cell? ⟨ad.block, ad.off + 1, none⟩ = some (.string b))
    (first
      | (with_reducible exact ⟨below_drew (Below.refl _ w3), q0, q3, x1⟩)
      | (exact ⟨below_drew (Below.refl _ w3), q0, q3, x1⟩))
    (fail)
  all_goals (
    have HB14 := Lib.hid (below_step HB.out (below_step HB1.out (below_drew (Below.refl _ w3))))
    go_wp2_with fail
    go_ret
    exact ⟨rfl, HB14.out⟩)
theorem text_calls (x : E) : allF x = true → TextC x := by
  refine E.ind (P := fun x => allF x = true → TextC x) (fun op nm n ks ih => ?_) x
  intro ha
  obtain ⟨hs1, hkids⟩ := allF_inv ha
  by_cases h0 : op.size = 0
  · exact text_leaf _ h0
  · obtain ⟨e1, e2, e3, e4⟩ := node_shape hs1 h0
    have e1 : nm = em := e1
    have e2 : n = 0 := e2
    have j3 : (ks.length : Int) = (countF op).1 := e3
    have j4 : (countF op).2 = true → headVar ks = true := e4
    clear e3 e4
    subst e1
    subst e2
    have hc : ∀ k ∈ ks, ClosedC k := fun k hk => closed_calls k (ih k hk (hkids k hk))
    rcases count_cases op with ⟨c1, hc0⟩ | ⟨c1, c2, hc0⟩ | ⟨c1, c2, c3, hc0⟩ | ⟨c1, c2, c3, c4, hc0⟩ | ⟨c1, c2, c3, c4, c5, hc0⟩ | ⟨c1, c2, c3, c4, c5, hc0⟩
    · rw [hc0] at j3
      obtain ⟨a, rfl⟩ := one_kid (show ks.length = 1 by omega)
      have key : ∀ o ∈ singlesL, o = sNeg ∨ ¬ o = sNeg := by decide
      rcases key op (inL_iff.1 c1) with h | h
      · subst h
        exact text_neg (hc a (List.mem_singleton.2 rfl))
      · exact text_un (hc a (List.mem_singleton.2 rfl)) h0 h c1
    · rw [hc0] at j3 j4
      obtain ⟨a, rfl⟩ := one_kid (show ks.length = 1 by omega)
      obtain ⟨b, rfl, hb⟩ := var_leaf (hkids a (List.mem_singleton.2 rfl)) (j4 rfl)
      have key : ∀ op ∈ stepsL, ¬ op.size = 0 ∧ ¬ op = sNeg ∧ inL singlesL op = false ∧ 4 ≤ op.size ∧ op.size ≤ 100 ∧ (preOf op = true ∨ (preOf op = false ∧ postOf op = true)) := by decide +kernel
      obtain ⟨f0, f1, f2, f3, f4, f5⟩ := key op (inL_iff.1 c2)
      rcases f5 with f5 | ⟨f5, f6⟩
      · exact text_pre f0 f1 f2 f5 f3 f4
      · exact text_post f0 f1 f2 f5 f6 f3 f4
    · rw [hc0] at j3
      obtain ⟨a, b, rfl⟩ := two_kids (show ks.length = 2 by omega)
      obtain ⟨b0, b1, b2, b3, b4, b5, b6, b7, b8⟩ := bin_inv (assigns_bin op (inL_iff.1 c3)).1
      exact text_bin (hc a List.mem_cons_self) (hc b (List.mem_cons_of_mem _ (List.mem_singleton.2 rfl))) b0 b1 b2 b3 b4 b5
    · rw [hc0] at j3
      obtain ⟨a, b, rfl⟩ := two_kids (show ks.length = 2 by omega)
      have hbin : binOk op = true := by
        rcases doubles_cases op (inL_iff.1 c4) with h | h | h
        · rw [h]; exact comma_bin.1
        · rw [h]; exact power_bin
        · exact h.1
      obtain ⟨b0, b1, b2, b3, b4, b5, b6, b7, b8⟩ := bin_inv hbin
      exact text_bin (hc a List.mem_cons_self) (hc b (List.mem_cons_of_mem _ (List.mem_singleton.2 rfl))) b0 b1 b2 b3 b4 b5
    · subst c5
      rw [hc0] at j3
      obtain ⟨a, b, d, rfl⟩ := three_kids (show ks.length = 3 by omega)
      exact text_tern (hc a List.mem_cons_self) (hc b (List.mem_cons_of_mem _ List.mem_cons_self)) (hc d (List.mem_cons_of_mem _ (List.mem_cons_of_mem _ (List.mem_singleton.2 rfl))))
    · rw [hc0] at j3
      exact absurd j3 (by show ¬ ((ks.length : Int) = -1); omega)
end Go.Proofs.YtlbgnpllbogkeaaDoor.Ext
end

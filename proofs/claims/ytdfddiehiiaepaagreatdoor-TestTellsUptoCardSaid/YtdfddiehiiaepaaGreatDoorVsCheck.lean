/- Proved: tree.Check in the print's form. Conditions: at most 2 to the 40 nodes, octets in all. -/
import Derived.Test.YtdfddiehiiaepaaGreatDoorVsTreeN
import Derived.Shelf.SlSorted.Search
set_option linter.unusedVariables false
set_option linter.unusedSimpArgs false
namespace Go.Proofs.YtdfddiehiiaepaaGreatDoor.Ext
open Go.RowKit Go.Shelf Go.Proofs.YtdfddiehiiaepaaGreatDoorW.PrintWords Go.Proofs.YtdfddiehiiaepaaGreatDoor.P
set_option maxHeartbeats 2000000 in
set_option maxRecDepth 100000 in
theorem check1_calls (n : S73) (A : Option Addr) (c : Nat) (t : List S73) (B : Nat) (w : World) (hb : Boxed w B 23 (.slice A t.length c)) (hr : Kd.C k73 w A t.length t) (hc : t.length ≤ c)
    (hl : t.length ≤ 1099511627776) (hs : n.f0.size ≤ 1099511627776) :
    Calls Tryz.prog 76 #[.agg #[.string n.f0, .bool n.f1, .string n.f2], .pointer (some ⟨B, 0, none⟩)] w fun e w' => e = .returned (.bool (!nodeOk t n)) ∧ Below w.heap.size w w' := by
  have hb1 : Below w.heap.size w (w.alloc (.cells #[.string n.f0, .bool n.f1, .string n.f2] 73)) := (Below.refl _ w).alloc (Nat.le_refl _) _
  have HN := Lib.hid (T.tree_node.calls 1 A c t n.f0 n.f1 n.f2 _ _ (Kd.C_below hr hb1) hc (node_some t n hl hs))
  have hcell := hb.cell
  have hbb := hb.lt
  have HB := Lib.hid hb1
  clear hb1
  go_enter Tryz.func76, Tryz.ntmps76
  go_wp2_with fail
  refine HN.out.mono ?_
  rintro e w1 ⟨rfl, hb2⟩
  have HB2 := Lib.hid (below_next7 HB.out HB.out.size hb2)
  clear hb2
  go_wp2_with fail
  go_ret
  exact ⟨rfl, HB2.out⟩
set_option maxHeartbeats 4000000 in
set_option maxRecDepth 100000 in
theorem indexNode_calls (A : Option Addr) (c : Nat) (t : List S73) (B : Nat) (w : World) (hb : Boxed w B 23 (.slice A t.length c)) (hr : Kd.C k73 w A t.length t) (hc : t.length ≤ c)
    (hl : t.length ≤ 1099511627776) (hs : ∀ n ∈ t, n.f0.size ≤ 1099511627776) :
    Calls Tryz.prog 92 #[.slice A t.length c, .func (.func 76) #[] #[.pointer (some ⟨B, 0, none⟩)]] w fun e w' =>
      (∃ r : Int, e = .returned (.int .i64 r) ∧ decide (r ≥ 0) = t.any (fun n => !nodeOk t n)) ∧ Below w.heap.size w w' := by
  go_enter Tryz.func92, Tryz.ntmps92
  go_wp2
  go_loopw [8] (fun v wr => ∃ (i : Nat), v = .int .i64 (i : Int) ∧ i ≤ t.length ∧ (t.take i).any (fun n => !nodeOk t n) = false ∧ Below w.heap.size w wr)
    (fun v _ => t.length - (intOf v).toNat)
  case atStart => exact ⟨0, rfl, Nat.zero_le _, rfl, Below.refl _ _⟩
  case round =>
    obtain ⟨i, rfl, hi, hno, hB⟩ := hrel
    have HB := Lib.hid hB
    clear hB
    by_cases hlt : i < t.length
    · have hd : decide ((i : Int) < (t.length : Int)) = true := decide_eq_true (by omega)
      have hg : t[i]? = some (rd_T73 t (i : Int)) := by unfold rd_T73; simp [List.getD_eq_getElem?_getD, List.getElem?_eq_getElem hlt]
      have hmem : rd_T73 t (i : Int) ∈ t := List.mem_of_getElem? hg
      have hsz := hs _ hmem
      have hbw : Boxed wr B 23 (.slice A t.length c) := (HB.out.block _ hb.lt).trans hb
      have HC := Lib.hid (check1_calls (rd_T73 t (i : Int)) A c t B wr hbw (Kd.C_below hr HB.out) hc hl hsz)
      obtain ⟨ad, rfl, hx0, hx1, hx2⟩ := at_T73 (Kd.C_below hr HB.out) (i : Nat) (by omega) (by omega)
      simp only [Int.toNat_natCast] at hx0 hx1 hx2
      have hstep : (t.take (i + 1)).any (fun n => !nodeOk t n) = !nodeOk t (rd_T73 t (i : Int)) := by
        rw [List.take_add_one, hg, List.any_append, hno]
        simp
      have HST := Lib.hid hstep
      have HNO := Lib.hid hno
      have HHB := Lib.hid hb
      clear hno hstep hbw hb
      go_wp2_with fail
      refine HC.out.mono ?_
      rintro e w1 ⟨rfl, hb2⟩
      have HB2 := Lib.hid (below_next7 HB.out HB.out.size hb2)
      clear hb2
      cases hn : nodeOk t (rd_T73 t (i : Int))
      · go_wp2_with fail
        go_ret
        refine ⟨⟨_, rfl, ?_⟩, HB2.out⟩
        rw [decide_eq_true (by omega)]
        symm
        rw [List.any_eq_true]
        exact ⟨_, hmem, by rw [hn]; rfl⟩
      · go_wp2_with fail
        go_roundw
        case rel => exact ⟨i + 1, by simp, by omega, by rw [HST.out, hn]; rfl, HB2.out⟩
        case measure => simp [intOf]; omega
    · obtain rfl : i = t.length := by omega
      have hd : decide ((t.length : Int) < (t.length : Int)) = false := decide_eq_false (by omega)
      rw [List.take_length] at hno
      have HNO := Lib.hid hno
      clear hno
      go_wp2_with fail
      go_ret
      refine ⟨⟨_, rfl, ?_⟩, HB.out⟩
      rw [HNO.out]
      rfl
set_option maxHeartbeats 2000000 in
set_option maxRecDepth 100000 in
theorem containsNode_calls (A : Option Addr) (c : Nat) (t : List S73) (B : Nat) (w : World) (hb : Boxed w B 23 (.slice A t.length c)) (hr : Kd.C k73 w A t.length t) (hc : t.length ≤ c)
    (hl : t.length ≤ 1099511627776) (hs : ∀ n ∈ t, n.f0.size ≤ 1099511627776) :
    Calls Tryz.prog 75 #[.slice A t.length c, .func (.func 76) #[] #[.pointer (some ⟨B, 0, none⟩)]] w fun e w' =>
      e = .returned (.bool (t.any (fun n => !nodeOk t n))) ∧ Below w.heap.size w w' := by
  have HI := Lib.hid (indexNode_calls A c t B w hb hr hc hl hs)
  clear hb hr
  go_enter Tryz.func75, Tryz.ntmps75
  go_wp2_with fail
  refine HI.out.mono ?_
  rintro e w1 ⟨⟨r, rfl, hr⟩, hb2⟩
  have HB2 := Lib.hid hb2
  have HR := Lib.hid hr
  clear hb2 hr
  go_wp2_with fail
  go_ret
  exact ⟨by rw [← HR.out]; rfl, HB2.out⟩
/-- In order, each path once. -/
def incB (t : List S73) : Bool := (List.range t.length).all fun j => decide (j = 0) || Op.bytesLess (rd_T73 t ((j - 1 : Nat) : Int)).f0.toList (rd_T73 t (j : Int)).f0.toList
def incUp (t : List S73) (i : Nat) : Bool := (List.range i).all fun j => decide (j = 0) || Op.bytesLess (rd_T73 t ((j - 1 : Nat) : Int)).f0.toList (rd_T73 t (j : Int)).f0.toList
theorem incUp_succ (t : List S73) (i : Nat) : incUp t (i + 1) = (incUp t i && (decide (i = 0) || Op.bytesLess (rd_T73 t ((i - 1 : Nat) : Int)).f0.toList (rd_T73 t (i : Int)).f0.toList)) := by
  unfold incUp
  rw [List.range_succ, List.all_append]
  simp
theorem incUp_false (t : List S73) (i : Nat) (h : incUp t i = false) : ∀ j, i ≤ j → incUp t j = false := by
  intro j hj
  induction j with
  | zero => obtain rfl : i = 0 := by omega
            exact h
  | succ j ih =>
    rcases Nat.lt_or_ge j i with hlt | hge
    · obtain rfl : i = j + 1 := by omega
      exact h
    · rw [incUp_succ, ih hge]
      rfl
/-- A tree that may be. -/
def checkB (t : List S73) : Bool := incB t && decide (t.length ≤ 256) && decide (total t ≤ 65536) && t.all (nodeOk t)
def fitsT (t : List S73) : Bool := decide (t.length ≤ 1099511627776) && decide (total t ≤ 1099511627776) && t.all fun n => decide (n.f0.size ≤ 1099511627776)
def tree_Check.f (t : List S73) : Option Int := if fitsT t = true then some (if checkB t = true then 0 else 9) else none
set_option maxHeartbeats 8000000 in
set_option maxRecDepth 100000 in
theorem tree_Check.calls (A : Option Addr) (c : Nat) (t : List S73) (r : Int) (w : World) (hr : Kd.C k73 w A t.length t) (hc : t.length ≤ c) (h : tree_Check.f t = some r) :
    Calls Tryz.prog 36 #[.slice A t.length c] w fun e w' => e = .returned (.int .i64 r) ∧ Below w.heap.size w w' := by
  unfold tree_Check.f at h
  split at h
  case isFalse => cases h
  rename_i hf
  have HRR := Lib.hid (Option.some.inj h)
  unfold fitsT at hf
  simp only [Bool.and_eq_true, decide_eq_true_eq, List.all_eq_true] at hf
  obtain ⟨⟨hl, htot⟩, hs⟩ := hf
  have mixed : Tryz.prog.follows Departure.mixedOrders = true := by kernel_rfl
  have kb := Boxed.new w 23 (.slice A t.length c)
  have HS := Lib.hid hs
  have HTOT := Lib.hid htot
  clear h hs htot
  go_enter Tryz.func36, Tryz.ntmps36
  go_wp2
  go_loopw [3] (fun v wr => ∃ (i : Nat), v = .int .i64 (i : Int) ∧ 1 ≤ i ∧ i ≤ t.length + 1 ∧ incUp t i = true ∧ Below w.heap.size w wr ∧ Boxed wr w.heap.size 23 (.slice A t.length c))
    (fun v _ => t.length + 1 - (intOf v).toNat)
  case atStart => exact ⟨1, rfl, Nat.le_refl _, by omega, rfl, (Below.refl _ w).alloc (Nat.le_refl _) _, kb⟩
  case round =>
    obtain ⟨i, rfl, hi1, hi, hinc, hB, hbox⟩ := hrel
    have HB := Lib.hid hB
    have HINC := Lib.hid hinc
    have hcell := hbox.cell
    clear hB hinc
    by_cases hlt : i < t.length
    · have hd : decide ((i : Int) < (t.length : Int)) = true := decide_eq_true (by omega)
      obtain ⟨ad, rfl, hx0, hx1, hx2⟩ := at_T73 (Kd.C_below hr HB.out) (i : Nat) (by omega) (by omega)
      obtain ⟨ad', e', hy0, hy1, hy2⟩ := at_T73 (Kd.C_below hr HB.out) ((i - 1 : Nat) : Int) (by omega) (by omega)
      cases e'
      simp only [Int.toNat_natCast] at hx0 hx1 hx2 hy0 hy1 hy2
      have hm1 : (i : Int) - 1 = ((i - 1 : Nat) : Int) := by omega
      have hst := incUp_succ t i
      rw [HINC.out, decide_eq_false (by omega : ¬ i = 0), Bool.true_and, Bool.false_or] at hst
      have HST := Lib.hid hst
      clear hst
      cases hbl : Op.bytesLess (rd_T73 t ((i - 1 : Nat) : Int)).f0.toList (rd_T73 t (i : Int)).f0.toList
      · have hck : checkB t = false := by
          have h1 := incUp_false t (i + 1) (by rw [HST.out, hbl]) t.length (by omega)
          unfold checkB
          rw [show incB t = incUp t t.length from rfl, h1]
          rfl
        have HR9 := Lib.hid (show r = 9 by rw [← HRR.out, hck]; rfl)
        go_wp2_with fail
        go_region_o
        go_wp2_with fail
        go_ret
        exact ⟨by rw [HR9.out]; rfl, HB.out.drew⟩
      · go_wp2_with fail
        go_region_o
        go_wp2_with fail
        go_roundw
        case rel => exact ⟨i + 1, by simp, by omega, by omega, by rw [HST.out, hbl], HB.out.drew, hbox⟩
        case measure => simp [intOf]; omega
    · have hd : decide ((i : Int) < (t.length : Int)) = false := decide_eq_false (by omega)
      have hin : incB t = true := by
        cases hq : incB t with
        | true => rfl
        | false =>
          have := incUp_false t t.length hq i (by omega)
          rw [HINC.out] at this
          cases this
      by_cases h256 : t.length ≤ 256
      · have hd2 : decide ((256 : Int) < (t.length : Int)) = false := decide_eq_false (by omega)
        have HSZ := Lib.hid (T.tree_size.calls (t.length + 1) A c t _ wr (Kd.C_below hr HB.out) hc (size_some t (by have := HTOT.out; omega) (by omega)))
        by_cases h65 : total t ≤ 65536
        · have hd3 : decide ((65536 : Int) < ((total t : Nat) : Int)) = false := decide_eq_false (by omega)
          have hck : checkB t = t.all (nodeOk t) := by
            unfold checkB
            rw [hin, decide_eq_true h256, decide_eq_true h65]
            simp
          have HCK := Lib.hid hck
          clear hck
          go_wp2_with fail
          refine HSZ.out.mono ?_
          rintro e w1 ⟨rfl, hb1⟩
          have HB1 := Lib.hid (below_next7 HB.out HB.out.size hb1)
          have hbox1 : Boxed w1 w.heap.size 23 (.slice A t.length c) := (hb1.block _ hbox.lt).trans hbox
          have hcell1 := hbox1.cell
          have HCT := Lib.hid (containsNode_calls A c t w.heap.size w1 hbox1 (Kd.C_below hr HB1.out) hc hl HS.out)
          clear hb1 hcell hbox
          go_wp2_with fail
          refine HCT.out.mono ?_
          rintro e w2 ⟨rfl, hb2⟩
          have HB2 := Lib.hid (below_next7 HB1.out HB1.out.size hb2)
          have hany : t.any (fun n => !nodeOk t n) = !t.all (nodeOk t) := by
            rw [List.not_all_eq_any_not]
          rw [hany]
          clear hb2 hany
          cases hal : t.all (nodeOk t)
          · have hr9 : r = 9 := by rw [← HRR.out, HCK.out, hal]; rfl
            have HR9 := Lib.hid hr9
            clear hr9
            go_wp2_with fail
            go_ret
            exact ⟨by rw [HR9.out]; rfl, HB2.out⟩
          · have hr9 : r = 0 := by rw [← HRR.out, HCK.out, hal]; rfl
            have HR9 := Lib.hid hr9
            clear hr9
            go_wp2_with fail
            go_ret
            exact ⟨by rw [HR9.out]; rfl, HB2.out⟩
        · have hd3 : decide ((65536 : Int) < ((total t : Nat) : Int)) = true := decide_eq_true (by omega)
          have hck : checkB t = false := by
            unfold checkB
            rw [hin, decide_eq_true h256, decide_eq_false h65]
            simp
          have HR9 := Lib.hid (show r = 9 by rw [← HRR.out, hck]; rfl)
          go_wp2_with fail
          refine HSZ.out.mono ?_
          rintro e w1 ⟨rfl, hb1⟩
          have HB1 := Lib.hid (below_next7 HB.out HB.out.size hb1)
          have hbox1 : Boxed w1 w.heap.size 23 (.slice A t.length c) := (hb1.block _ hbox.lt).trans hbox
          have hcell1 := hbox1.cell
          clear hb1 hcell hbox
          go_wp2_with fail
          go_ret
          exact ⟨by rw [HR9.out]; rfl, HB1.out⟩
      · have hd2 : decide ((256 : Int) < (t.length : Int)) = true := decide_eq_true (by omega)
        have hck : checkB t = false := by
          unfold checkB
          rw [hin, decide_eq_false h256]
          simp
        have HR9 := Lib.hid (show r = 9 by rw [← HRR.out, hck]; rfl)
        go_wp2_with fail
        go_ret
        exact ⟨by rw [HR9.out]; rfl, HB.out⟩
end Go.Proofs.YtdfddiehiiaepaaGreatDoor.Ext

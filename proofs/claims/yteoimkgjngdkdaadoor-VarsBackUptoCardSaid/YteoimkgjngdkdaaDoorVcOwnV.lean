/- Proved: vars.own: variables in a row of the call's own, with lists of their own. Conditions: at most 2 to the 40 variables, of at most 10 to the 9 texts each. -/
import Derived.Test.YteoimkgjngdkdaaDoorVcRowV
set_option linter.unusedVariables false
set_option linter.unusedSimpArgs false
namespace Go.Proofs.YteoimkgjngdkdaaDoor.Ext
open Go.RowKit Go.Shelf Go.Proofs.YteoimkgjngdkdaaDoorW.PrintWords Go.Proofs.YteoimkgjngdkdaaDoor.P
set_option maxHeartbeats 8000000 in
set_option maxRecDepth 100000 in
theorem own_calls (A : Option Addr) (c : Nat) (xs : List S53) (w : World) (hr : Kd.C k53 w A xs.length xs) (hc : xs.length ≤ c) (hl : xs.length ≤ 1099511627776) (hf : ∀ x ∈ xs, x.f3.length ≤ 1000000000) :
    Calls Tryd.prog 21 #[.slice A xs.length c] w fun e w' => ∃ v0_, e = .returned v0_ ∧ Kd.S k53 53 w' w.heap.size (fun _ => True) v0_ xs ∧ Below w.heap.size w w' := by
  obtain ⟨inner, hlen, hK, hcell, hone, hn⟩ := inner_V hr
  have HCL := Lib.hid (cloneV_calls A c xs.length inner w hlen hcell hone hn hc hl)
  have HF := Lib.hid hf
  have HK := Lib.hid hK
  clear hr hcell hone hn hf hK
  go_enter Tryd.func21, Tryd.ntmps21
  go_wp2_with fail
  refine HCL.out.mono ?_
  rintro e w1 ⟨v1, rfl, hown, hb1⟩
  rcases hown.2 with ⟨rfl, h0⟩ | ⟨g, cap, cur, rfl, hg, hh, hr⟩
  · obtain rfl : xs = [] := List.eq_nil_of_length_eq_zero h0
    have HB1 := Lib.hid hb1
    clear hown hb1
    go_wp2_with fail
    go_loopw [10] (fun i wr => i = .int .i64 0 ∧ Below w.heap.size w wr) (fun i _ => 0)
    case atStart => exact ⟨rfl, HB1.out⟩
    case round =>
      obtain ⟨rfl, hb⟩ := hrel
      have HB2 := Lib.hid hb
      clear hb
      go_wp2_with fail
      go_ret
      exact ⟨_, rfl, ⟨fun _ => 0, Kd.R_nil _ _ _ _ _⟩, HB2.out⟩
  · have hrow : RowV (fun _ => 0) w w1 w.heap.size g cap 0 xs inner := ⟨hown, fun j p _ hj => by omega, fun j p hj _ => HK.out j p hj⟩
    have hlt : g < w1.heap.size := (hown.lt g (by simp [Value.ownBlock])).2
    have HROW := Lib.hid hrow
    have HB1 := Lib.hid hb1
    clear hown hb1 hrow hh hr
    go_wp2_with fail
    go_loopw [10] (fun i wr => ∃ (k : Nat) (f : Nat → Nat) (inner' : List Value), k ≤ xs.length ∧ i = .int .i64 k ∧ RowV f w wr w.heap.size g cap k xs inner' ∧ Below w.heap.size w wr ∧ g < wr.heap.size) (fun i _ => xs.length - (intOf i).toNat)
    case atStart => exact ⟨0, _, inner, Nat.zero_le _, rfl, HROW.out, HB1.out, hlt⟩
    case round =>
      obtain ⟨k, f, inner', hk, rfl, hrow, hb, hgw⟩ := hrel
      have HB2 := Lib.hid hb
      have HROW2 := Lib.hid hrow
      clear hb
      by_cases hkl : k < xs.length
      · have hp := List.getElem?_eq_getElem hkl
        obtain ⟨A', c', hlc, hC, x0, x1, x2, x3, xf⟩ := hrow.cells hp
        have HC := Lib.hid hC
        have HL := Lib.hid (HF.out _ (List.getElem_mem hkl))
        clear hrow hC
        generalize xs[k] = p at *
        go_wp2_with fail
        have ha : Below wr.heap.size wr (wr.alloc (.cells #[.string p.f0, .string p.f1, .bool p.f2, .slice A' p.f3.length c'] 53)) := (Below.refl _ _).alloc (Nat.le_refl _) _
        have HA := Lib.hid ha
        refine (cloneS_calls A' c' p.f3 _ (Kd.C_below HC.out (HB2.out.trans (ha.mono HB2.out.size))) hlc HL.out).mono ?_
        rintro e w3 ⟨v3, rfl, hR, hb3⟩
        obtain ⟨Av, cv, rfl⟩ := Kd.R_slice hR
        have hW : Below wr.heap.size wr w3 := HA.out.trans (hb3.mono HA.out.size)
        have hR2 := Kd.R_lower hR HA.out.size
        have hstep := RowV.step HROW2.out hp hW hR2 HB2.out.size hgw
        have xf3 : w3.frozen? ⟨g, k * 4 + 3, none⟩ = false := (pw_own_below HROW2.out.1 hW).frozenAt _
        have x33 : w3.cell? ⟨g, k * 4 + 3, none⟩ = some (.slice A' p.f3.length c') := (hW.cell (p := ⟨g, k * 4 + 3, none⟩) hgw).trans x3
        have hB4 : Below w.heap.size w (w3.setCell ⟨g, k * 4 + 3, none⟩ (.slice Av p.f3.length cv)) := (HB2.out.trans (hW.mono HB2.out.size)).setCell (p := ⟨g, k * 4 + 3, none⟩) hg _
        have hg3 : g < (w3.setCell ⟨g, k * 4 + 3, none⟩ (.slice Av p.f3.length cv)).heap.size := by
          have := hW.size
          simp
          omega
        have HS := Lib.hid hstep
        have HB4 := Lib.hid hB4
        have HG3 := Lib.hid hg3
        clear hR hb3 hW hR2 hstep hB4 hg3 x0 x1 x2 x3 xf ha
        go_wp2_with fail
        go_roundw
        case rel => exact ⟨k + 1, _, _, by omega, by go_num, HS.out, HB4.out, HG3.out⟩
        case measure => simp [intOf]; omega
      · clear hrow
        have hke : k = xs.length := by omega
        subst hke
        go_wp2_with fail
        go_ret
        exact ⟨_, rfl, RowV.whole HROW2.out, HB2.out⟩
def fitsV (l : List S53) : Bool := decide (l.length ≤ 1099511627776) && l.all fun x => decide (x.f3.length ≤ 1000000000)
def vars_own.f (l : List S53) : Option (List S53) := if fitsV l = true then some l else none
theorem vars_own.calls (A0 : Option Addr) (c0 : Nat) (l0 : List S53) (r : List S53) (w : World) (hr0 : Kd.C k53 w A0 l0.length l0) (hc0 : l0.length ≤ c0) (h : vars_own.f l0 = some r) :
    Calls Tryd.prog 21 #[.slice A0 l0.length c0] w fun e w' => ∃ v0_ : Value, e = .returned (v0_) ∧ Kd.S k53 53 w' w.heap.size (fun _ => True) v0_ r ∧ Below w.heap.size w w' := by
  unfold vars_own.f at h
  split at h
  case isFalse => cases h
  rename_i hf
  obtain rfl := Option.some.inj h
  unfold fitsV at hf
  simp only [Bool.and_eq_true, decide_eq_true_eq, List.all_eq_true] at hf
  exact own_calls A0 c0 _ w hr0 hc0 hf.1 hf.2
def slices_Clone_string_string.f (l : List ByteArray) : Option (List ByteArray) := if l.length ≤ 1000000000 then some l else none
theorem slices_Clone_string_string.calls (A0 : Option Addr) (c0 : Nat) (l0 : List ByteArray) (r : List ByteArray) (w : World) (hr0 : Kd.C Kd.string w A0 l0.length l0) (hc0 : l0.length ≤ c0) (h : slices_Clone_string_string.f l0 = some r) :
    Calls Tryd.prog 22 #[.slice A0 l0.length c0] w fun e w' => ∃ v0_ : Value, e = .returned (v0_) ∧ Kd.R Kd.string 9 w' w.heap.size (fun _ => True) v0_ r ∧ Below w.heap.size w w' := by
  unfold slices_Clone_string_string.f at h
  split at h
  case isFalse => cases h
  rename_i hl
  obtain rfl := Option.some.inj h
  exact cloneS_calls A0 c0 _ w hr0 hc0 hl
end Go.Proofs.YteoimkgjngdkdaaDoor.Ext

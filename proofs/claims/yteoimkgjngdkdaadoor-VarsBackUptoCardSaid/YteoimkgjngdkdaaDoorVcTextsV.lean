/- Proved: vars.texts' call tells true where all texts may be. Condition: at most 2 to the 40 texts. -/
import Derived.Test.YteoimkgjngdkdaaDoorVcRowV
import Derived.Test.YteoimkgjngdkdaaDoorVcName20
import Derived.Test.YteoimkgjngdkdaaDoorVcNum
import Derived.Test.YteoimkgjngdkdaaDoorVcJoinS
set_option linter.unusedVariables false
set_option linter.unusedSimpArgs false
namespace Go.Proofs.YteoimkgjngdkdaaDoor.Ext
open Go.RowKit Go.Shelf Go.Proofs.YteoimkgjngdkdaaDoorW.PrintWords Go.Proofs.YteoimkgjngdkdaaDoor.P
/-- May a text be? -/
def okT (s : ByteArray) : Bool := decide (s.size ≤ 65536) && decide (Lib.indexByte s.data.toList 0 = -1)
set_option maxHeartbeats 1000000 in
theorem textFn_calls (s : ByteArray) (w : World) (h : okT s = true) :
    Calls Tryd.prog 65 #[.string s] w fun e w' => e = .returned (.bool false) ∧ Below w.heap.size w w' := by
  unfold okT at h
  simp only [Bool.and_eq_true, decide_eq_true_eq] at h
  obtain ⟨hs, hi⟩ := h
  have HI := Lib.hid hi
  have hbig : decide (65536 < (s.size : Int)) = false := decide_eq_false (by omega)
  have HG := Lib.hid hbig
  clear hi hbig
  go_enter Tryd.func65, Tryd.ntmps65
  go_wp2_with fail
  refine (strings_IndexByte.calls s 0 (-1) _ (by unfold strings_IndexByte.f; exact congrArg some HI.out)).mono ?_
  rintro e w2 ⟨rfl, hd⟩
  have HD := Lib.hid (drawn_below hd)
  clear hd
  go_wp2_with fail
  go_ret
  exact ⟨congrArg (fun b => Ending.returned (Value.bool b)) HG.out, HD.out⟩
set_option maxHeartbeats 4000000 in
set_option maxRecDepth 100000 in
theorem indexS_calls (A : Option Addr) (c : Nat) (xs : List ByteArray) (w : World) (hr : Kd.C Kd.string w A xs.length xs) (hc : xs.length ≤ c) (hl : xs.length ≤ 1099511627776) (hok : ∀ x ∈ xs, okT x = true) :
    Calls Tryd.prog 82 #[.slice A xs.length c, .func (.func 65) #[] #[]] w fun e w' => e = .returned (.int .i64 (-1)) ∧ Below w.heap.size w w' := by
  have eg := enters_of Tryd.func65 (by kernel_rfl) rfl
  have HR := Lib.hid hr
  have HO := Lib.hid hok
  clear hr hok
  go_enter Tryd.func82, Tryd.ntmps82
  go_wp2_with fail
  go_loopw [8] (fun i wr => ∃ (k : Nat), k ≤ xs.length ∧ i = .int .i64 k ∧ Below w.heap.size w wr) (fun i _ => xs.length - (intOf i).toNat)
  case atStart => exact ⟨0, Nat.zero_le _, rfl, Below.refl _ _⟩
  case round =>
    obtain ⟨k, hk, rfl, hbw⟩ := hrel
    have HBW := Lib.hid hbw
    by_cases hlt : k < xs.length
    · obtain ⟨ad, rfl, hcells⟩ := cells_of_strings (Kd.C_below HR.out hbw) (Nat.lt_of_le_of_lt (Nat.zero_le _) hlt)
      have x0 := hcells k _ (List.getElem?_eq_getElem hlt)
      have HN := Lib.hid (HO.out _ (List.getElem_mem hlt))
      generalize xs[k] = p at *
      clear hbw hcells
      go_wp2_with fail
      refine (textFn_calls p wr HN.out).mono ?_
      rintro e w2 ⟨rfl, hb2⟩
      have HB2 := Lib.hid (HBW.out.trans (hb2.mono HBW.out.size))
      clear hb2 x0
      go_wp2_with fail
      go_roundw
      case rel => exact ⟨k + 1, by omega, by go_num, HB2.out⟩
      case measure => simp [intOf]; omega
    · have hke : k = xs.length := by omega
      subst hke
      clear hbw
      go_wp2_with fail
      go_ret
      exact ⟨rfl, HBW.out⟩
set_option maxHeartbeats 1000000 in
theorem containsS_calls (A : Option Addr) (c : Nat) (xs : List ByteArray) (w : World) (hr : Kd.C Kd.string w A xs.length xs) (hc : xs.length ≤ c) (hl : xs.length ≤ 1099511627776) (hok : ∀ x ∈ xs, okT x = true) :
    Calls Tryd.prog 64 #[.slice A xs.length c, .func (.func 65) #[] #[]] w fun e w' => e = .returned (.bool false) ∧ Below w.heap.size w w' := by
  have HI := Lib.hid (indexS_calls A c xs w hr hc hl hok)
  clear hr hok
  go_enter Tryd.func64, Tryd.ntmps64
  go_wp2_with fail
  refine HI.out.mono ?_
  rintro e w2 ⟨rfl, hb2⟩
  have HB2 := Lib.hid hb2
  clear hb2
  go_wp2_with fail
  go_ret
  exact ⟨rfl, HB2.out⟩
set_option maxHeartbeats 1000000 in
theorem texts_calls (A : Option Addr) (c : Nat) (xs : List ByteArray) (w : World) (hr : Kd.C Kd.string w A xs.length xs) (hc : xs.length ≤ c) (hl : xs.length ≤ 1099511627776) (hok : ∀ x ∈ xs, okT x = true) :
    Calls Tryd.prog 43 #[.slice A xs.length c] w fun e w' => e = .returned (.bool true) ∧ Below w.heap.size w w' := by
  have HI := Lib.hid (containsS_calls A c xs w hr hc hl hok)
  clear hr hok
  go_enter Tryd.func43, Tryd.ntmps43
  go_wp2_with fail
  refine HI.out.mono ?_
  rintro e w2 ⟨rfl, hb2⟩
  have HB2 := Lib.hid hb2
  clear hb2
  go_wp2_with fail
  go_ret
  exact ⟨rfl, HB2.out⟩
end Go.Proofs.YteoimkgjngdkdaaDoor.Ext

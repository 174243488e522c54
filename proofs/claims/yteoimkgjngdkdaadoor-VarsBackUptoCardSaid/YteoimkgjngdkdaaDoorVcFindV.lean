/- Proved: the place of a variable of a name (Store.find), in the print's form. Condition: at most 2 to the 40 variables. -/
import Derived.Test.YteoimkgjngdkdaaDoorVcRowV
set_option linter.unusedVariables false
set_option linter.unusedSimpArgs false
namespace Go.Proofs.YteoimkgjngdkdaaDoor.Ext
open Go.RowKit Go.Shelf Go.Proofs.YteoimkgjngdkdaaDoorW.PrintWords Go.Proofs.YteoimkgjngdkdaaDoor.P
/-- The first place of a name; below 0: there is none. -/
def idxV (s : ByteArray) : List S53 → Nat → Int
  | [], _ => -1
  | p :: l, i => if (p.f0.toList == s.toList) = true then (i : Int) else idxV s l (i + 1)
theorem idxV_drop (s : ByteArray) (l : List S53) (k : Nat) (p : S53) (hk : l[k]? = some p) : idxV s (l.drop k) k = if (p.f0.toList == s.toList) = true then (k : Int) else idxV s (l.drop (k + 1)) (k + 1) := by
  obtain ⟨h1, h2⟩ := List.getElem?_eq_some_iff.1 hk
  rw [List.drop_eq_getElem_cons h1, idxV, h2]
set_option maxHeartbeats 4000000 in
set_option maxRecDepth 100000 in
theorem named_calls (B : Nat) (s : ByteArray) (p : S53) (v : Value) (w : World) (hv : ∃ A c, v = .slice A p.f3.length c) (hbox : w.cell? ⟨B, 0, none⟩ = some (.string s)) :
    Calls Tryd.prog 59 #[.agg #[.string p.f0, .string p.f1, .bool p.f2, v], .pointer (some ⟨B, 0, none⟩)] w fun e w' => e = .returned (.bool (p.f0.toList == s.toList)) ∧ Below w.heap.size w w' := by
  obtain ⟨A, c, rfl⟩ := hv
  have hB : B < w.heap.size := World.block_lt_of_cell? w ⟨B, 0, none⟩ hbox
  have hbox2 : ∀ o, (w.alloc o).cell? ⟨B, 0, none⟩ = some (.string s) := fun o => (((Below.refl _ w).alloc (Nat.le_refl _) o).cell (p := ⟨B, 0, none⟩) hB).trans hbox
  go_enter Tryd.func59, Tryd.ntmps59
  go_wp2_with fail
  go_ret
  exact ⟨rfl, (Below.refl _ w).alloc (Nat.le_refl _) _⟩
set_option maxHeartbeats 8000000 in
set_option maxRecDepth 100000 in
theorem indexV_calls (B : Nat) (s : ByteArray) (A : Option Addr) (c : Nat) (xs : List S53) (w : World) (hr : Kd.C k53 w A xs.length xs) (hc : xs.length ≤ c) (hl : xs.length ≤ 1099511627776) (hbox : w.cell? ⟨B, 0, none⟩ = some (.string s)) :
    Calls Tryd.prog 58 #[.slice A xs.length c, .func (.func 59) #[] #[.pointer (some ⟨B, 0, none⟩)]] w fun e w' => e = .returned (.int .i64 (idxV s xs 0)) ∧ Below w.heap.size w w' := by
  have eg := enters_of Tryd.func59 (by kernel_rfl) rfl
  have hB : B < w.heap.size := World.block_lt_of_cell? w ⟨B, 0, none⟩ hbox
  have HR := Lib.hid hr
  have HX := Lib.hid hbox
  clear hr hbox
  go_enter Tryd.func58, Tryd.ntmps58
  go_wp2_with fail
  go_loopw [8] (fun i wr => ∃ (k : Nat), k ≤ xs.length ∧ i = .int .i64 k ∧ idxV s xs 0 = idxV s (xs.drop k) k ∧ Below w.heap.size w wr) (fun i _ => xs.length - (intOf i).toNat)
  case atStart => exact ⟨0, Nat.zero_le _, rfl, rfl, Below.refl _ _⟩
  case round =>
    obtain ⟨k, hk, rfl, hf, hbw⟩ := hrel
    have HBW := Lib.hid hbw
    by_cases hlt : k < xs.length
    · have hp := List.getElem?_eq_getElem hlt
      have hst := idxV_drop s xs k _ hp
      obtain ⟨ad, A3, c3, rfl, x0, x1, x2, x3, l3, g3⟩ := at_T53 (Kd.C_below HR.out hbw) (k : Nat) (by omega) (by omega)
      have hrd : rd_T53 xs (k : Nat) = xs[k] := by
        unfold rd_T53
        rw [Int.toNat_natCast, List.getD_eq_getElem?_getD, hp]
        rfl
      rw [hrd] at x0 x1 x2 x3
      rw [← hf] at hst
      simp only [Int.toNat_natCast] at x0 x1 x2 x3
      have HN := Lib.hid (fun w2 (hb2 : Below w.heap.size w w2) => named_calls B s xs[k] (.slice A3 xs[k].f3.length c3) w2 ⟨_, _, rfl⟩ ((hb2.cell (p := ⟨B, 0, none⟩) hB).trans HX.out))
      generalize xs[k] = p at *
      have HST := Lib.hid hst
      clear hst hbw hf l3 g3
      go_wp2_with fail
      refine (HN.out wr HBW.out).mono ?_
      rintro e w2 ⟨rfl, hb2⟩
      have HB2 := Lib.hid (HBW.out.trans (hb2.mono HBW.out.size))
      clear hb2 x0 x1 x2 x3
      cases hpc : (p.f0.toList == s.toList)
      · rw [hpc, if_neg (by simp)] at HST
        clear hpc
        go_wp2_with fail
        go_roundw
        case rel => exact ⟨k + 1, by omega, by go_num, HST.out, HB2.out⟩
        case measure => simp [intOf]; omega
      · rw [hpc, if_pos rfl] at HST
        clear hpc
        go_wp2_with fail
        go_ret
        exact ⟨by rw [HST.out]; rfl, HB2.out⟩
    · have hke : k = xs.length := by omega
      subst hke
      rw [List.drop_length] at hf
      have HF := Lib.hid hf
      clear hf hbw
      go_wp2_with fail
      go_ret
      exact ⟨by rw [HF.out]; rfl, HBW.out⟩
def vars_Store_find.f (l : List S53) (l1 : List ByteArray) (n : Int) (s : ByteArray) : Option Int := if l.length ≤ 1099511627776 then some (idxV s l 0) else none
set_option maxHeartbeats 4000000 in
set_option maxRecDepth 100000 in
theorem vars_Store_find.calls (A0 : Option Addr) (c0 : Nat) (l0 : List S53) (A1 : Option Addr) (c1 : Nat) (l1 : List ByteArray) (n : Int) (s : ByteArray) (r : Int) (w : World) (hr0 : Kd.C k53 w A0 l0.length l0) (hc0 : l0.length ≤ c0) (hr1 : Kd.C Kd.string w A1 l1.length l1) (hc1 : l1.length ≤ c1) (h : vars_Store_find.f l0 l1 n s = some r) :
    Calls Tryd.prog 33 #[.agg #[.slice A0 l0.length c0, .slice A1 l1.length c1, .int .i64 n], .string s] w fun e w' => e = .returned (.int .i64 r) ∧ Below w.heap.size w w' := by
  unfold vars_Store_find.f at h
  split at h
  case isFalse => cases h
  rename_i hl
  obtain rfl := Option.some.inj h
  have ei := enters_of Tryd.func58 (by kernel_rfl) rfl
  have hb : Below w.heap.size w ((w.alloc (.cells #[.slice A0 l0.length c0, .slice A1 l1.length c1, .int .i64 n] 27)).alloc (.cells #[.string s] 9)) := ((Below.refl _ w).alloc (Nat.le_refl _) _).alloc (by simp) _
  have hbx : ((w.alloc (.cells #[.slice A0 l0.length c0, .slice A1 l1.length c1, .int .i64 n] 27)).alloc (.cells #[.string s] 9)).cell? ⟨w.heap.size + 1, 0, none⟩ = some (.string s) := by
    have h9 := heap_alloc_new (w.alloc (.cells #[.slice A0 l0.length c0, .slice A1 l1.length c1, .int .i64 n] 27)) (.cells #[.string s] 9)
    rw [show (w.alloc (.cells #[.slice A0 l0.length c0, .slice A1 l1.length c1, .int .i64 n] 27)).heap.size = w.heap.size + 1 by simp] at h9
    unfold World.cell?
    rw [h9]
    rfl
  have HI := Lib.hid (indexV_calls (w.heap.size + 1) s A0 c0 l0 _ (Kd.C_below hr0 hb) hc0 hl hbx)
  have HB := Lib.hid hb
  clear hr0 hr1 h hb
  go_enter Tryd.func33, Tryd.ntmps33
  go_wp2_with fail
  refine HI.out.mono ?_
  rintro e w2 ⟨rfl, hb2⟩
  have HB2 := Lib.hid (HB.out.trans (hb2.mono HB.out.size))
  clear hb2
  go_wp2_with fail
  go_ret
  exact ⟨rfl, HB2.out⟩
end Go.Proofs.YteoimkgjngdkdaaDoor.Ext

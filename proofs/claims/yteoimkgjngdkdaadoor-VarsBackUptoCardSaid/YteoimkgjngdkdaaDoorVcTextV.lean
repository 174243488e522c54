/- Proved: vars.Text's call, where the name is none of the special parameters and no digits, and the variable is no array. Conditions: at most 2 to the 40 variables, a name of at most 10 to the 9 octets. -/
import Derived.Test.YteoimkgjngdkdaaDoorVcFindV
import Derived.Test.YteoimkgjngdkdaaDoorVcName20
set_option linter.unusedVariables false
set_option linter.unusedSimpArgs false
namespace Go.Proofs.YteoimkgjngdkdaaDoor.Ext
open Go.RowKit Go.Shelf Go.Proofs.YteoimkgjngdkdaaDoorW.PrintWords Go.Proofs.YteoimkgjngdkdaaDoor.P
theorem idxV_spec (s : ByteArray) : ∀ (l : List S53) (i : Nat), idxV s l i = -1 ∨ ∃ k p, idxV s l i = ((i + k : Nat) : Int) ∧ l[k]? = some p ∧ p.f0.toList = s.toList
  | [], i => .inl rfl
  | p :: l, i => by
    unfold idxV
    by_cases h : (p.f0.toList == s.toList) = true
    · rw [if_pos h]
      exact .inr ⟨0, p, rfl, rfl, beq_iff_eq.1 h⟩
    · rw [if_neg h]
      rcases idxV_spec s l (i + 1) with h1 | ⟨k, q, h1, h2, h3⟩
      · exact .inl h1
      · exact .inr ⟨k + 1, q, by rw [h1]; congr 1; omega, h2, h3⟩
def nameOk (s : ByteArray) : Bool := decide (s.size ≤ 64) && (everyB nameP s && !digitB (s.data.toList.getD 0 0).toNat)
/-- None of the special parameters, no digits. -/
def plainN (s : ByteArray) : Bool := decide (s.size ≤ 1000000000) && !(s.toList == [35]) && !(s.toList == [63]) && !(s.toList == [64]) && !(s.toList == [42]) && !everyB digitB s
def textB (l : List S53) (s : ByteArray) : ByteArray × Bool := if idxV s l 0 < 0 then (⟨#[]⟩, false) else if nameOk s = true then ((rd_T53 l (idxV s l 0)).f1, true) else (⟨#[]⟩, false)
def vars_Text.f (l : List S53) (l1 : List ByteArray) (n : Int) (s : ByteArray) : Option (ByteArray × Bool) :=
  if plainN s = true ∧ l.length ≤ 1099511627776 ∧ (0 ≤ idxV s l 0 → (rd_T53 l (idxV s l 0)).f2 = false) then some (textB l s) else none
set_option maxHeartbeats 8000000 in
set_option maxRecDepth 100000 in
theorem vars_Text.calls (A0 : Option Addr) (c0 : Nat) (l0 : List S53) (A1 : Option Addr) (c1 : Nat) (l1 : List ByteArray) (n : Int) (s : ByteArray) (r1 : ByteArray) (r2 : Bool) (w : World) (hr0 : Kd.C k53 w A0 l0.length l0) (hc0 : l0.length ≤ c0) (hr1 : Kd.C Kd.string w A1 l1.length l1) (hc1 : l1.length ≤ c1) (h : vars_Text.f l0 l1 n s = some (r1, r2)) :
    Calls Tryd.prog 14 #[.agg #[.slice A0 l0.length c0, .slice A1 l1.length c1, .int .i64 n], .string s] w fun e w' => e = .returned (.tuple #[.string r1, .bool r2]) ∧ Below w.heap.size w w' := by
  unfold vars_Text.f at h
  split at h
  case isFalse => cases h
  rename_i hcond
  obtain ⟨hpl, hl, harr⟩ := hcond
  have he := Option.some.inj h
  clear h
  unfold plainN at hpl
  simp only [Bool.and_eq_true, decide_eq_true_eq, Bool.not_eq_true'] at hpl
  obtain ⟨⟨⟨⟨⟨hsz, n1⟩, n2⟩, n3⟩, n4⟩, n5⟩ := hpl
  have HD := Lib.hid (fun w => octets_Digits.calls s false w (by unfold octets_Digits.f; rw [if_pos hsz, n5]))
  have HN := Lib.hid (fun w => octets_Name.calls s (nameOk s) w (by unfold octets_Name.f nameOk; rw [if_pos hsz]))
  have HF := Lib.hid (fun w hr0 hr1 => vars_Store_find.calls A0 c0 l0 A1 c1 l1 n s (idxV s l0 0) w hr0 hc0 hr1 hc1 (by unfold vars_Store_find.f; rw [if_pos hl]))
  obtain ⟨W1, hW1⟩ : ∃ W1, W1 = w.alloc (.cells #[.slice A0 l0.length c0, .slice A1 l1.length c1, .int .i64 n] 27) := ⟨_, rfl⟩
  have hb1 : Below w.heap.size w W1 := by rw [hW1]; exact (Below.refl _ w).alloc (Nat.le_refl _) _
  have hlt : w.heap.size < W1.heap.size := by rw [hW1]; simp
  have hblk : W1.heap[w.heap.size]? = some (.cells #[.slice A0 l0.length c0, .slice A1 l1.length c1, .int .i64 n] 27 (0, 0)) := by rw [hW1]; exact heap_alloc_new _ _
  have cells : ∀ W, Below W1.heap.size W1 W → W.cell? ⟨w.heap.size, 0, none⟩ = some (.slice A0 l0.length c0) ∧ W.cell? ⟨w.heap.size, 1, none⟩ = some (.slice A1 l1.length c1) ∧ W.cell? ⟨w.heap.size, 2, none⟩ = some (.int .i64 n) := fun W hb => by
    have hh : W.heap[w.heap.size]? = _ := (hb.block _ hlt).trans hblk
    unfold World.cell?
    rw [hh]
    exact ⟨rfl, rfl, rfl⟩
  have HB1 := Lib.hid hb1
  have HC := Lib.hid cells
  have HR0 := Lib.hid hr0
  have HR1 := Lib.hid hr1
  have HE := Lib.hid he
  have HA := Lib.hid harr
  clear cells hr0 hr1 he harr hblk hsz n5 hb1
  go_enter Tryd.func14, Tryd.ntmps14
  go_wp2_with fail
  rw [← hW1]
  refine (HD.out _).mono ?_
  rintro e w2 ⟨rfl, hb2⟩
  have HB2 := Lib.hid hb2
  obtain ⟨x0, x1, x2⟩ := HC.out w2 hb2
  clear hb2
  go_wp2_with fail
  refine (HF.out _ (Kd.C_below HR0.out (HB1.out.trans (HB2.out.mono HB1.out.size))) (Kd.C_below HR1.out (HB1.out.trans (HB2.out.mono HB1.out.size)))).mono ?_
  rintro e w3 ⟨rfl, hb3⟩
  have HB3 := Lib.hid (HB2.out.trans (hb3.mono HB2.out.size))
  obtain ⟨y0, y1, y2⟩ := HC.out w3 HB3.out
  clear hb3 x0 x1 x2
  have hfin : ∀ W, Below W1.heap.size W1 W → Below w.heap.size w W := fun W hb => HB1.out.trans (hb.mono HB1.out.size)
  have HFIN := Lib.hid hfin
  clear hfin
  rcases idxV_spec s l0 0 with hi | ⟨k, p, hi, hp, _⟩
  · have he := HE.out
    unfold textB at he
    rw [hi, if_pos (by decide)] at he
    cases he
    rw [hi]
    go_wp2_with fail
    go_ret2
    exact ⟨rfl, HFIN.out _ HB3.out⟩
  · rw [Nat.zero_add] at hi
    have he := HE.out
    unfold textB at he
    rw [hi, if_neg (by omega)] at he
    have ha := HA.out
    rw [hi] at ha
    have harr := ha (by omega)
    have hlk := (List.getElem?_eq_some_iff.1 hp).1
    rw [hi]
    have hk0 : ¬ ((k : Int) < 0) := by omega
    have HHE := Lib.hid he
    clear he ha hi
    go_wp2_with fail
    refine (HN.out _).mono ?_
    rintro e w4 ⟨rfl, hb4⟩
    have HB4 := Lib.hid (HB3.out.trans (hb4.mono HB3.out.size))
    obtain ⟨z0, z1, z2⟩ := HC.out w4 HB4.out
    clear hb4 y0 y1 y2
    have he := HHE.out
    cases hnm : nameOk s
    · rw [hnm, if_neg (by simp)] at he
      cases he
      go_wp2_with fail
      go_ret2
      exact ⟨rfl, HFIN.out _ HB4.out⟩
    · rw [hnm, if_pos rfl] at he
      obtain ⟨rfl, rfl⟩ : r1 = (rd_T53 l0 (k : Int)).f1 ∧ r2 = true := by cases he; exact ⟨rfl, rfl⟩
      clear he
      obtain ⟨ad, A3, c3, rfl, v0, v1, v2, v3, l3, g3⟩ := at_T53 (Kd.C_below HR0.out (HFIN.out _ HB4.out)) (k : Nat) (by omega) (by omega)
      rw [harr] at v2
      simp only [Int.toNat_natCast] at v0 v1 v2 v3
      have al : ∀ (o : Obj) (p : Addr) (v : Value), w4.cell? p = some v → (w4.alloc o).cell? p = some v := fun o p v h => pw_cell_below ((Below.refl _ w4).alloc (Nat.le_refl _) o) h
      have t0 := fun o => al o _ _ z0
      have t1 := fun o => al o _ _ z1
      have t2 := fun o => al o _ _ z2
      have u0 := fun o => al o _ _ v0
      have u1 := fun o => al o _ _ v1
      have u2 := fun o => al o _ _ v2
      have u3 := fun o => al o _ _ v3
      have HAL := Lib.hid (fun o => ((Below.refl _ w4).alloc (Nat.le_refl _) o : Below w4.heap.size w4 (w4.alloc o)))
      clear al
      go_wp2_with fail
      go_ret2
      exact ⟨rfl, HFIN.out _ (HB4.out.trans ((HAL.out _).mono HB4.out.size))⟩
end Go.Proofs.YteoimkgjngdkdaaDoor.Ext

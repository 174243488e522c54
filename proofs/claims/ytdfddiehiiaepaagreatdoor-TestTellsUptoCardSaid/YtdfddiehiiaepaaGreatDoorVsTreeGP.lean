/- Proved: tree.Get in the print's form, and tree.put into no tree. Conditions: at most 2 to the 40 nodes, octets in all. -/
import Derived.Test.YtdfddiehiiaepaaGreatDoorVsCheck
import Derived.Maps.AppendAt
set_option linter.unusedVariables false
set_option linter.unusedSimpArgs false
namespace Go.Proofs.YtdfddiehiiaepaaGreatDoor.Ext
open Go.RowKit Go.Shelf Go.Proofs.YtdfddiehiiaepaaGreatDoorW.PrintWords Go.Proofs.YtdfddiehiiaepaaGreatDoor.P
/-- An error of a tree and a path; the path as it is told. -/
def askB (t : List S73) (p : ByteArray) : ByteArray × Int := if checkB t = true then (if badP p = true then (⟨#[]⟩, 31) else (pathB p, 0)) else (⟨#[]⟩, 9)
def tree_ask.f (t : List S73) (p : ByteArray) : Option (ByteArray × Int) := if fitsT t = true ∧ p.size ≤ 1099511627776 then some (askB t p) else none
set_option maxHeartbeats 4000000 in
set_option maxRecDepth 100000 in
theorem tree_ask.calls (A : Option Addr) (c : Nat) (t : List S73) (p : ByteArray) (r1 : ByteArray) (r2 : Int) (w : World) (hr : Kd.C k73 w A t.length t) (hc : t.length ≤ c) (h : tree_ask.f t p = some (r1, r2)) :
    Calls Tryz.prog 54 #[.slice A t.length c, .string p] w fun e w' => e = .returned (.tuple #[.string r1, .int .i64 r2]) ∧ Below w.heap.size w w' := by
  unfold tree_ask.f at h
  split at h
  case isFalse => cases h
  rename_i hf
  have he := Option.some.inj h
  unfold askB at he
  have HC := Lib.hid (tree_Check.calls A c t _ w hr hc (by unfold tree_Check.f; rw [if_pos hf.1]))
  have HP := Lib.hid (fun w => tree_Path.calls p (if badP p = true then ⟨#[]⟩ else pathB p) (if badP p = true then 31 else 0) w (by unfold tree_Path.f; rw [if_pos hf.2]; split <;> rfl))
  clear h hr
  by_cases hck : checkB t = true
  · rw [if_pos hck] at he HC
    have e1 : r1 = if badP p = true then ⟨#[]⟩ else pathB p := by split at he <;> (cases he; simp [*])
    have e2 : r2 = if badP p = true then 31 else 0 := by split at he <;> (cases he; simp [*])
    rw [← e1, ← e2] at HP
    clear he e1 e2 hck hf
    go_enter Tryz.func54, Tryz.ntmps54
    go_wp2_with fail
    refine HC.out.mono ?_
    rintro e w1 ⟨rfl, hb1⟩
    have HB1 := Lib.hid hb1
    clear hb1
    go_wp2_with fail
    refine (HP.out _).mono ?_
    rintro e w2 ⟨rfl, hb2⟩
    have HB2 := Lib.hid (below_next7 HB1.out HB1.out.size hb2)
    clear hb2
    go_wp2_with fail
    go_ret2
    exact ⟨rfl, HB2.out⟩
  · rw [if_neg hck] at he HC
    cases he
    clear hck hf
    go_enter Tryz.func54, Tryz.ntmps54
    go_wp2_with fail
    refine HC.out.mono ?_
    rintro e w1 ⟨rfl, hb1⟩
    have HB1 := Lib.hid hb1
    clear hb1
    go_wp2_with fail
    go_ret2
    exact ⟨rfl, HB1.out⟩
/-- A file's data. -/
def getB (t : List S73) (p : ByteArray) : ByteArray × Int :=
  if (askB t p).2 = 0 then (if kindOf t (askB t p).1 = 0 then (⟨#[]⟩, 71) else if kindOf t (askB t p).1 = 2 then (⟨#[]⟩, 15) else ((rd_T73 t (bs t (askB t p).1 : Nat)).f2, 0)) else (⟨#[]⟩, (askB t p).2)
def tree_Get.f (t : List S73) (p : ByteArray) : Option (ByteArray × Int) := if fitsT t = true ∧ p.size ≤ 1099511627776 then some (getB t p) else none
theorem kind_one {t : List S73} {p : ByteArray} (h : kindOf t p = 1) : bs t p < t.length ∧ bsIs t p = true := by
  unfold kindOf at h
  split at h
  · cases h
  · split at h
    · rename_i h1
      refine ⟨?_, h1⟩
      unfold bsIs at h1
      simp at h1
      exact h1.1
    · cases h
theorem kind_cases (t : List S73) (p : ByteArray) : kindOf t p = 0 ∨ kindOf t p = 1 ∨ kindOf t p = 2 := by
  unfold kindOf
  split
  · simp
  · split
    · split <;> simp
    · simp
set_option maxHeartbeats 8000000 in
set_option maxRecDepth 100000 in
theorem tree_Get.calls (A : Option Addr) (c : Nat) (t : List S73) (p : ByteArray) (r1 : ByteArray) (r2 : Int) (w : World) (hr : Kd.C k73 w A t.length t) (hc : t.length ≤ c) (h : tree_Get.f t p = some (r1, r2)) :
    Calls Tryz.prog 19 #[.slice A t.length c, .string p] w fun e w' => e = .returned (.tuple #[.string r1, .int .i64 r2]) ∧ Below w.heap.size w w' := by
  unfold tree_Get.f at h
  split at h
  case isFalse => cases h
  rename_i hf
  have he := Option.some.inj h
  have hl : t.length ≤ 1099511627776 := by
    have := hf.1
    unfold fitsT at this
    simp only [Bool.and_eq_true, decide_eq_true_eq] at this
    exact this.1.1
  unfold getB at he
  have HA := Lib.hid (tree_ask.calls A c t p (askB t p).1 (askB t p).2 w hr hc (by unfold tree_ask.f; rw [if_pos hf]))
  have HR := Lib.hid hr
  clear h
  generalize askB t p = q at *
  obtain ⟨q1, q2⟩ := q
  dsimp only at he HA
  by_cases h0 : q2 = 0
  · rw [if_pos h0] at he
    subst h0
    have HK := Lib.hid (fun w hr => tree_kind.calls A c t q1 (kindOf t q1) w hr hc (by unfold tree_kind.f; rw [if_pos hl]))
    have HS := Lib.hid (fun w hr => search_calls A c t q1 w hr hc hl)
    rcases kind_cases t q1 with hk | hk | hk
    · rw [hk] at he HK
      obtain ⟨rfl, rfl⟩ : r1 = ⟨#[]⟩ ∧ r2 = 71 := by cases he; exact ⟨rfl, rfl⟩
      clear he hk hf hr
      go_enter Tryz.func19, Tryz.ntmps19
      go_wp2_with fail
      refine HA.out.mono ?_
      rintro e w1 ⟨rfl, hb1⟩
      have HB1 := Lib.hid hb1
      clear hb1
      go_wp2_with fail
      refine (HK.out _ (Kd.C_below HR.out HB1.out)).mono ?_
      rintro e w2 ⟨rfl, hb2⟩
      have HB2 := Lib.hid (below_next7 HB1.out HB1.out.size hb2)
      clear hb2
      go_wp2_with fail
      go_ret2
      exact ⟨rfl, HB2.out⟩
    · obtain ⟨hlt, _⟩ := kind_one hk
      rw [hk] at he HK
      obtain ⟨rfl, rfl⟩ : r1 = (rd_T73 t (bs t q1 : Nat)).f2 ∧ r2 = 0 := by cases he; exact ⟨rfl, rfl⟩
      clear he hk hf hr
      go_enter Tryz.func19, Tryz.ntmps19
      go_wp2_with fail
      refine HA.out.mono ?_
      rintro e w1 ⟨rfl, hb1⟩
      have HB1 := Lib.hid hb1
      clear hb1
      go_wp2_with fail
      refine (HK.out _ (Kd.C_below HR.out HB1.out)).mono ?_
      rintro e w2 ⟨rfl, hb2⟩
      have HB2 := Lib.hid (below_next7 HB1.out HB1.out.size hb2)
      clear hb2
      go_wp2_with fail
      refine (HS.out _ (Kd.C_below HR.out HB2.out)).mono ?_
      rintro e w3 ⟨rfl, hb3⟩
      have HB3 := Lib.hid (below_next7 HB2.out HB2.out.size hb3)
      clear hb3
      obtain ⟨ad, rfl, hx0, hx1, hx2⟩ := at_T73 (Kd.C_below HR.out HB3.out) (bs t q1 : Nat) (by omega) (by omega)
      simp only [Int.toNat_natCast] at hx0 hx1 hx2
      go_wp2_with fail
      go_ret2
      exact ⟨rfl, HB3.out⟩
    · rw [hk] at he HK
      obtain ⟨rfl, rfl⟩ : r1 = ⟨#[]⟩ ∧ r2 = 15 := by cases he; exact ⟨rfl, rfl⟩
      clear he hk hf hr
      go_enter Tryz.func19, Tryz.ntmps19
      go_wp2_with fail
      refine HA.out.mono ?_
      rintro e w1 ⟨rfl, hb1⟩
      have HB1 := Lib.hid hb1
      clear hb1
      go_wp2_with fail
      refine (HK.out _ (Kd.C_below HR.out HB1.out)).mono ?_
      rintro e w2 ⟨rfl, hb2⟩
      have HB2 := Lib.hid (below_next7 HB1.out HB1.out.size hb2)
      clear hb2
      go_wp2_with fail
      go_ret2
      exact ⟨rfl, HB2.out⟩
  · rw [if_neg h0] at he
    have hb : (q2 != 0) = true := bne_iff_ne.2 h0
    obtain ⟨rfl, rfl⟩ : r1 = ⟨#[]⟩ ∧ r2 = q2 := by cases he; exact ⟨rfl, rfl⟩
    clear he h0 hf hr
    go_enter Tryz.func19, Tryz.ntmps19
    go_wp2_with fail
    refine HA.out.mono ?_
    rintro e w1 ⟨rfl, hb1⟩
    have HB1 := Lib.hid hb1
    clear hb1
    go_wp2_with fail
    go_ret2
    exact ⟨rfl, HB1.out⟩
end Go.Proofs.YtdfddiehiiaepaaGreatDoor.Ext

/- Proved: tree.Get in the print's form, and tree.put into no tree. Conditions: at most 2 to the 40 nodes, octets in all. -/
import Derived.Test.YtdfddiehiiaepaaDoorVlCheck
import Derived.Maps.AppendAt
set_option linter.unusedVariables false
set_option linter.unusedSimpArgs false
namespace Go.Proofs.YtdfddiehiiaepaaDoor.Ext
open Go.RowKit Go.Shelf Go.Proofs.YtdfddiehiiaepaaDoorW.PrintWords Go.Proofs.YtdfddiehiiaepaaDoor.P
/-- An error of a tree and a path; the path as it is told. -/
def askB (t : List S65) (p : ByteArray) : ByteArray × Int := if checkB t = true then (if badP p = true then (⟨#[]⟩, 31) else (pathB p, 0)) else (⟨#[]⟩, 9)
def tree_ask.f (t : List S65) (p : ByteArray) : Option (ByteArray × Int) := if fitsT t = true ∧ p.size ≤ 1099511627776 then some (askB t p) else none
set_option maxHeartbeats 4000000 in
set_option maxRecDepth 100000 in
theorem tree_ask.calls (A : Option Addr) (c : Nat) (t : List S65) (p : ByteArray) (r1 : ByteArray) (r2 : Int) (w : World) (hr : Kd.C k65 w A t.length t) (hc : t.length ≤ c) (h : tree_ask.f t p = some (r1, r2)) :
    Calls Tryd.prog 42 #[.slice A t.length c, .string p] w fun e w' => e = .returned (.tuple #[.string r1, .int .i64 r2]) ∧ Below w.heap.size w w' := by
  unfold tree_ask.f at h
  split at h
  case isFalse => cases h
  rename_i hf
  have he := Option.some.inj h
  unfold askB at he
  have HC := Lib.hid (tree_Check.calls A c t _ w hr hc (by unfold tree_Check.f; rw [if_pos hf.1]))
  have HP := Lib.hid (fun w => tree_Path.calls p (if badP p = true then ⟨#[]⟩ else pathB p) (if badP p = true then 31 else 0) w (by unfold tree_Path.f; rw [if_pos hf.2]; split <;> rfl))
  clear h hr
  by_cases hck : checkB t = true
  · rw [if_pos hck] at he HC
    have e1 : r1 = if badP p = true then ⟨#[]⟩ else pathB p := by split at he <;> (cases he; simp [*])
    have e2 : r2 = if badP p = true then 31 else 0 := by split at he <;> (cases he; simp [*])
    rw [← e1, ← e2] at HP
    clear he e1 e2 hck hf
    go_enter Tryd.func42, Tryd.ntmps42
    go_wp2_with fail
    refine HC.out.mono ?_
    rintro e w1 ⟨rfl, hb1⟩
    have HB1 := Lib.hid hb1
    clear hb1
    go_wp2_with fail
    refine (HP.out _).mono ?_
    rintro e w2 ⟨rfl, hb2⟩
    have HB2 := Lib.hid (below_next7 HB1.out HB1.out.size hb2)
    clear hb2
    go_wp2_with fail
    go_ret2
    exact ⟨rfl, HB2.out⟩
  · rw [if_neg hck] at he HC
    cases he
    clear hck hf
    go_enter Tryd.func42, Tryd.ntmps42
    go_wp2_with fail
    refine HC.out.mono ?_
    rintro e w1 ⟨rfl, hb1⟩
    have HB1 := Lib.hid hb1
    clear hb1
    go_wp2_with fail
    go_ret2
    exact ⟨rfl, HB1.out⟩
theorem kind_cases (t : List S65) (p : ByteArray) : kindOf t p = 0 ∨ kindOf t p = 1 ∨ kindOf t p = 2 := by
  unfold kindOf
  split
  · simp
  · split
    · split <;> simp
    · simp
end Go.Proofs.YtdfddiehiiaepaaDoor.Ext

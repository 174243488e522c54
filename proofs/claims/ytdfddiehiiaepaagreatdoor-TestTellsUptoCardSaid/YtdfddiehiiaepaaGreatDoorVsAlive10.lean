/- Proved: chapter 10's alive answers true, where the table of blanks holds what its initialiser lays. -/
import Derived.Test.YtdfddiehiiaepaaGreatDoorVsEval
set_option linter.unusedVariables false
namespace Go.Proofs.YtdfddiehiiaepaaGreatDoor.Ext
open Go.RowKit Go.Shelf Go.Proofs.YtdfddiehiiaepaaGreatDoorW.PrintWords Go.Proofs.YtdfddiehiiaepaaGreatDoor.P
theorem lit3 (a b c : ByteArray) (w : World) : Kd.C Kd.string (w.alloc (.cells #[.string a, .string b, .string c] 9)) (some ⟨w.heap.size, 0, none⟩) 3 [a, b, c] := by
  have hrow : (w.alloc (.cells #[.string a, .string b, .string c] 9)).ownsRow w.heap.size 9 1 (.slice (some ⟨w.heap.size, 0, none⟩) [a, b, c].length 3) [a, b, c].length ([a, b, c].map Value.string) :=
    ⟨rfl, .inr ⟨w.heap.size, 3, #[.string a, .string b, .string c], rfl, Nat.le_refl _, heap_alloc_new _ _, Nat.le_refl _, by decide, rfl, rfl⟩⟩
  exact (Kd.S_reads' (row_strings hrow)).2.2
theorem ev_lt : Aside0 (test_Eval.f [⟨#[51]⟩, ⟨#[45, 108, 116]⟩, ⟨#[53]⟩] [] = some 0) := ⟨by decide +kernel⟩
theorem ev_eq : Aside0 (test_Eval.f [⟨#[]⟩, ⟨#[61]⟩, ⟨#[97]⟩] [] = some 1) := ⟨by decide +kernel⟩
theorem ev_no : Aside0 (test_Eval.f [] [] = some 1) := ⟨by decide +kernel⟩
theorem nodes0 (w : World) : Kd.C k73 w none ([] : List S73).length [] := Kd.C_nil _ w
theorem words0 (w : World) : Kd.C Kd.string w none ([] : List ByteArray).length [] := Kd.C_nil _ w
def cowrielaw10_alive.f : Option Bool := some true
set_option maxHeartbeats 4000000 in
set_option maxRecDepth 100000 in
theorem cowrielaw10_alive.calls (r : Bool) (w : World) (hT : Tab w) (h : cowrielaw10_alive.f = some r) :
    Calls Tryz.prog 15 #[] w fun e w' => e = .returned (.bool r) ∧ Below w.heap.size w w' := by
  obtain rfl : true = r := Option.some.inj h
  have HT := Lib.hid hT
  have E1 := Lib.hid (fun A c w hT hr hc => test_Eval.calls A c [⟨#[51]⟩, ⟨#[45, 108, 116]⟩, ⟨#[53]⟩] none 0 [] 0 w hT hr hc (nodes0 w) (Nat.le_refl _) ev_lt.out)
  have E2 := Lib.hid (fun A c w hT hr hc => test_Eval.calls A c [⟨#[]⟩, ⟨#[61]⟩, ⟨#[97]⟩] none 0 [] 1 w hT hr hc (nodes0 w) (Nat.le_refl _) ev_eq.out)
  have E3 := Lib.hid (fun w hT => test_Eval.calls none 0 [] none 0 [] 1 w hT (words0 w) (Nat.le_refl _) (nodes0 w) (Nat.le_refl _) ev_no.out)
  clear hT h
  go_enter Tryz.func15, Tryz.ntmps15
  go_wp2_with fail
  have HB0 := Lib.hid ((Below.refl w.heap.size w).alloc (Nat.le_refl _) (.cells #[.string ⟨#[51]⟩, .string ⟨#[45, 108, 116]⟩, .string ⟨#[53]⟩] 9))
  refine (E1.out _ 3 _ (HT.out.below HB0.out) (lit3 _ _ _ w) (Nat.le_refl _)).mono ?_
  rintro e w1 ⟨rfl, hb1⟩
  have HB1 := Lib.hid (below_next HB0.out HB0.out.size hb1)
  clear hb1 HB0
  go_wp2_with fail
  have HB2 := Lib.hid (HB1.out.alloc HB1.out.size (.cells #[.string ⟨#[]⟩, .string ⟨#[61]⟩, .string ⟨#[97]⟩] 9))
  refine (E2.out _ 3 _ (HT.out.below HB2.out) (lit3 _ _ _ w1) (Nat.le_refl _)).mono ?_
  rintro e w2 ⟨rfl, hb2⟩
  have HB3 := Lib.hid (below_next HB2.out HB2.out.size hb2)
  clear hb2 HB2
  go_wp2_with fail
  refine (E3.out _ (HT.out.below HB3.out)).mono ?_
  rintro e w3 ⟨rfl, hb3⟩
  have HB4 := Lib.hid (below_next HB3.out HB3.out.size hb3)
  clear hb3
  go_wp2_with fail
  go_ret
  exact ⟨rfl, HB4.out⟩
end Go.Proofs.YtdfddiehiiaepaaGreatDoor.Ext

/- Proved: cowrieref14.SameParts and SameWords at one word of one text, the same on both sides. -/
import Derived.Test.YtciflnnagkdjiaaDoorVqBrSame
set_option linter.unusedVariables false
set_option linter.unusedSimpArgs false
namespace Go.Proofs.YtciflnnagkdjiaaDoor.Ext
open Go.RowKit Go.Proofs.YtciflnnagkdjiaaDoorW.PrintWords
set_option maxHeartbeats 4000000 in
set_option maxRecDepth 100000 in
theorem parts_one (A1 A2 : Option Addr) (c1 c2 : Nat) (s : ByteArray) (q : Bool) (w : World) (h1 : Kd.C kP w A1 1 [textP s q]) (h2 : Kd.C kP w A2 1 [textP s q]) :
    Calls Tryd.prog 25 #[.slice A1 1 c1, .slice A2 1 c2] w fun e w' => e = .returned (.bool true) ∧ Below w.heap.size w w' := by
  have HS := Lib.hid (part_same s q)
  obtain ⟨a, rfl, x0, x1, x2, x3, x4, x5, x6, x7, x8, x9⟩ := at_P h1 (k := 0) rfl
  obtain ⟨b, rfl, y0, y1, y2, y3, y4, y5, y6, y7, y8, y9⟩ := at_P h2 (k := 0) rfl
  rw [show (0 : Nat) * 10 = 0 from rfl, show a.add 0 = a by simp [Addr.add]] at x0 x1 x2 x3 x4 x5 x6 x7 x8 x9
  rw [show (0 : Nat) * 10 = 0 from rfl, show b.add 0 = b by simp [Addr.add]] at y0 y1 y2 y3 y4 y5 y6 y7 y8 y9
  have mixed : Tryd.prog.follows Departure.mixedOrders = true := by kernel_rfl
  clear h1 h2
  go_enter Tryd.func25, Tryd.ntmps25
  go_wp2_with fail
  go_loopw [5] (fun i wr => (i = .int .i64 0 ∧ wr = w) ∨ (i = .int .i64 1 ∧ Below w.heap.size w wr)) (fun i _ => 1 - (intOf i).toNat)
  case atStart => exact .inl ⟨rfl, rfl⟩
  case round =>
    rcases hrel with ⟨rfl, rfl⟩ | ⟨rfl, hb⟩
    · go_wp2_with fail
      go_region_with (go_at_call 33; refine (HS.out _).mono ?_; rintro e w1 ⟨rfl, hb1⟩)
      all_goals (
        have HB1 := Lib.hid (show Below wr.heap.size wr w1 from (below_drew (Below.refl _ wr)).trans hb1)
        clear hb1
        go_wp2_with fail
        go_roundw
        (case rel => exact .inr ⟨rfl, HB1.out⟩)
        (case measure => simp [intOf]))
    · have HB := Lib.hid hb
      clear hb
      go_wp2_with fail
      go_ret
      exact ⟨rfl, HB.out⟩
set_option maxHeartbeats 4000000 in
set_option maxRecDepth 100000 in
theorem words_one (A1 A2 : Option Addr) (c1 c2 : Nat) (s : ByteArray) (q : Bool) (w : World) (h1 : Kd.C kW w A1 1 [[textP s q]]) (h2 : Kd.C kW w A2 1 [[textP s q]]) :
    Calls Tryd.prog 11 #[.slice A1 1 c1, .slice A2 1 c2] w fun e w' => e = .returned (.bool true) ∧ Below w.heap.size w w' := by
  obtain ⟨a, B1, d1, rfl, x0, hd1, hC1⟩ := at_W h1 (j := 0) rfl
  obtain ⟨b, B2, d2, rfl, y0, hd2, hC2⟩ := at_W h2 (j := 0) rfl
  rw [show a.add 0 = a by simp [Addr.add]] at x0
  rw [show b.add 0 = b by simp [Addr.add]] at y0
  have HS := Lib.hid (fun w h1 h2 => parts_one B1 B2 d1 d2 s q w h1 h2)
  have HC1 := Lib.hid hC1
  have HC2 := Lib.hid hC2
  have mixed : Tryd.prog.follows Departure.mixedOrders = true := by kernel_rfl
  clear h1 h2 hC1 hC2
  go_enter Tryd.func11, Tryd.ntmps11
  go_wp2_with fail
  go_loopw [5] (fun i wr => (i = .int .i64 0 ∧ wr = w) ∨ (i = .int .i64 1 ∧ Below w.heap.size w wr)) (fun i _ => 1 - (intOf i).toNat)
  case atStart => exact .inl ⟨rfl, rfl⟩
  case round =>
    rcases hrel with ⟨rfl, rfl⟩ | ⟨rfl, hb⟩
    · go_wp2_with fail
      go_region_with (go_at_call 25; refine (HS.out _ (Kd.C_drew HC1.out) (Kd.C_drew HC2.out)).mono ?_; rintro e w1 ⟨rfl, hb1⟩)
      all_goals (
        have HB1 := Lib.hid (show Below wr.heap.size wr w1 from (below_drew (Below.refl _ wr)).trans hb1)
        clear hb1
        go_wp2_with fail
        go_roundw
        (case rel => exact .inr ⟨rfl, HB1.out⟩)
        (case measure => simp [intOf]))
    · have HB := Lib.hid hb
      clear hb
      go_wp2_with fail
      go_ret
      exact ⟨rfl, HB.out⟩
end Go.Proofs.YtciflnnagkdjiaaDoor.Ext

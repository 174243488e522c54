/- Proved: cowrieref14's comparisons at words of one text: what is the same is told so. -/
import Derived.Test.YtciflnnagkdjiaaDoorVqBrAlive
import Derived.Deep.RegionWith
set_option linter.unusedVariables false
set_option linter.unusedSimpArgs false
namespace Go.Proofs.YtciflnnagkdjiaaDoor.Ext
open Go.RowKit Go.Proofs.YtciflnnagkdjiaaDoorW.PrintWords
set_option maxHeartbeats 1000000 in
theorem parts_nil (w : World) : Calls Tryd.prog 25 #[.slice none 0 0, .slice none 0 0] w fun e w' => e = .returned (.bool true) ∧ Below w.heap.size w w' := by
  go_enter Tryd.func25, Tryd.ntmps25
  go_wp2_with fail
  go_loopw [5] (fun i wr => i = .int .i64 0 ∧ wr = w) (fun _ _ => 0)
  case atStart => exact ⟨rfl, rfl⟩
  case round =>
    obtain ⟨rfl, rfl⟩ := hrel
    go_wp2_with fail
    go_ret
    exact ⟨rfl, Below.refl _ _⟩
set_option maxHeartbeats 1000000 in
theorem sums_nil (w : World) : Calls Tryd.prog 40 #[.slice none 0 0, .slice none 0 0] w fun e w' => e = .returned (.bool true) ∧ Below w.heap.size w w' := by
  go_enter Tryd.func40, Tryd.ntmps40
  go_wp2_with fail
  go_loopw [5] (fun i wr => i = .int .i64 0 ∧ wr = w) (fun _ _ => 0)
  case atStart => exact ⟨rfl, rfl⟩
  case round =>
    obtain ⟨rfl, rfl⟩ := hrel
    go_wp2_with fail
    go_ret
    exact ⟨rfl, Below.refl _ _⟩
set_option maxHeartbeats 1000000 in
theorem all_nil (w : World) : Calls Tryd.prog 41 #[.slice none 0 0, .slice none 0 0] w fun e w' => e = .returned (.bool true) ∧ Below w.heap.size w w' := by
  go_enter Tryd.func41, Tryd.ntmps41
  go_wp2_with fail
  go_loopw [5] (fun i wr => i = .int .i64 0 ∧ wr = w) (fun _ _ => 0)
  case atStart => exact ⟨rfl, rfl⟩
  case round =>
    obtain ⟨rfl, rfl⟩ := hrel
    go_wp2_with fail
    go_ret
    exact ⟨rfl, Below.refl _ _⟩
set_option maxHeartbeats 4000000 in
set_option maxRecDepth 100000 in
theorem part_same (s : ByteArray) (q : Bool) (w : World) : Calls Tryd.prog 33 #[.agg #[.int .i64 1, .string s, .string ⟨#[]⟩, .string ⟨#[]⟩, .bool q, .slice none 0 0, .slice none 0 0, .slice none 0 0, .slice none 0 0, .int .i64 0], .agg #[.int .i64 1, .string s, .string ⟨#[]⟩, .string ⟨#[]⟩, .bool q, .slice none 0 0, .slice none 0 0, .slice none 0 0, .slice none 0 0, .int .i64 0]] w fun e w' => e = .returned (.bool true) ∧ Below w.heap.size w w' := by
  have HP := Lib.hid parts_nil
  have HS := Lib.hid sums_nil
  have HA := Lib.hid all_nil
  have hb1 := (Below.refl _ w).alloc (Nat.le_refl _) (.cells (encP (textP s q)).toArray 26)
  have hb2 := (Below.refl _ (w.alloc (.cells (encP (textP s q)).toArray 26))).alloc (Nat.le_refl _) (.cells (encP (textP s q)).toArray 26)
  have h1 := (hb2.block _ (blk_lt (heap_alloc_new w (.cells (encP (textP s q)).toArray 26)))).trans (heap_alloc_new w (.cells (encP (textP s q)).toArray 26))
  have h2 := heap_alloc_new (w.alloc (.cells (encP (textP s q)).toArray 26)) (.cells (encP (textP s q)).toArray 26)
  rw [alloc_size] at h2
  have HB := Lib.hid (below_step hb1 hb2)
  have H1 := Lib.hid h1
  have H2 := Lib.hid h2
  clear hb1 hb2 h1 h2
  go_enter Tryd.func33, Tryd.ntmps33
  go_wp2_with fail
  refine (HP.out _).mono ?_
  rintro e w1 ⟨rfl, hb1⟩
  have HB1 := Lib.hid (below_step HB.out hb1)
  have K1 := Lib.hid ((hb1.block _ (blk_lt H1.out)).trans H1.out)
  have K2 := Lib.hid ((hb1.block _ (blk_lt H2.out)).trans H2.out)
  obtain ⟨x0, x1, x2, x3, x4, x5, x6, x7, x8, x9⟩ := blk_P K1.out
  obtain ⟨y0, y1, y2, y3, y4, y5, y6, y7, y8, y9⟩ := blk_P K2.out
  clear hb1
  go_wp2_with fail
  refine (HP.out _).mono ?_
  rintro e w2 ⟨rfl, hb2⟩
  have HB2 := Lib.hid (below_step HB1.out hb2)
  have J1 := Lib.hid ((hb2.block _ (blk_lt K1.out)).trans K1.out)
  have J2 := Lib.hid ((hb2.block _ (blk_lt K2.out)).trans K2.out)
  clear hb2 x0 x1 x2 x3 x4 x5 x6 x7 x8 x9 y0 y1 y2 y3 y4 y5 y6 y7 y8 y9
  obtain ⟨x0, x1, x2, x3, x4, x5, x6, x7, x8, x9⟩ := blk_P J1.out
  obtain ⟨y0, y1, y2, y3, y4, y5, y6, y7, y8, y9⟩ := blk_P J2.out
  go_wp2_with fail
  refine (HS.out _).mono ?_
  rintro e w3 ⟨rfl, hb3⟩
  have HB3 := Lib.hid (below_step HB2.out hb3)
  have I1 := Lib.hid ((hb3.block _ (blk_lt J1.out)).trans J1.out)
  have I2 := Lib.hid ((hb3.block _ (blk_lt J2.out)).trans J2.out)
  clear hb3 x0 x1 x2 x3 x4 x5 x6 x7 x8 x9 y0 y1 y2 y3 y4 y5 y6 y7 y8 y9
  obtain ⟨x0, x1, x2, x3, x4, x5, x6, x7, x8, x9⟩ := blk_P I1.out
  obtain ⟨y0, y1, y2, y3, y4, y5, y6, y7, y8, y9⟩ := blk_P I2.out
  go_wp2_with fail
  refine (HA.out _).mono ?_
  rintro e w4 ⟨rfl, hb4⟩
  have HB4 := Lib.hid (below_step HB3.out hb4)
  clear hb4
  go_wp2_with fail
  go_ret
  exact ⟨rfl, HB4.out⟩
end Go.Proofs.YtciflnnagkdjiaaDoor.Ext

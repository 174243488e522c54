/- Proved: what chapter 10's alive and the laws TestTexts and TestNumbers answer, in the print's form; where the table of blanks holds what its initialiser lays. -/
import Derived.Test.YtdfddiehiiaepaaDoorTest
import Derived.Deep.RegionWith
set_option linter.unusedVariables false
namespace Go.Proofs.YtdfddiehiiaepaaDoor.Ext
open Go.RowKit Go.Proofs.YtdfddiehiiaepaaDoorW.PrintWords

set_option maxHeartbeats 2000000 in
set_option maxRecDepth 100000 in
theorem binary_t (op : ByteArray) (w : World) (hT : Tab w) (hin : test_in.f textsT op = some true) :
    Calls Tryd.prog 14 #[.string op] w fun e w' => e = .returned (.bool true) ∧ Below w.heap.size w w' := by
  have HI := Lib.hid (test_in.calls textsT op true w hT hin)
  unfold textsT at HI
  go_enter Tryd.func14, Tryd.ntmps14
  go_wp2_with fail
  refine HI.out.mono ?_
  rintro e w1 ⟨rfl, hb1⟩
  have HB1 := Lib.hid hb1
  clear hb1
  go_wp2_with fail
  go_ret
  exact ⟨rfl, HB1.out⟩
set_option maxHeartbeats 2000000 in
set_option maxRecDepth 100000 in
theorem binary_n (op : ByteArray) (w : World) (hT : Tab w) (hin : test_in.f textsT op = some false) (hin2 : test_in.f numsT op = some true) :
    Calls Tryd.prog 14 #[.string op] w fun e w' => e = .returned (.bool true) ∧ Below w.heap.size w w' := by
  have HI := Lib.hid (test_in.calls textsT op false w hT hin)
  have HJ := Lib.hid (fun w hT => test_in.calls numsT op true w hT hin2)
  have HT := Lib.hid hT
  unfold textsT at HI
  unfold numsT at HJ
  go_enter Tryd.func14, Tryd.ntmps14
  go_wp2_with fail
  refine HI.out.mono ?_
  rintro e w1 ⟨rfl, hb1⟩
  have HB1 := Lib.hid hb1
  clear hb1
  go_wp2_with fail
  refine (HJ.out _ (HT.out.below HB1.out)).mono ?_
  rintro e w2 ⟨rfl, hb2⟩
  have HB2 := Lib.hid (below_next HB1.out HB1.out.size hb2)
  clear hb2
  go_wp2_with fail
  go_ret
  exact ⟨rfl, HB2.out⟩

set_option maxHeartbeats 2000000 in
set_option maxRecDepth 100000 in
theorem more3 (a op b : ByteArray) (r : Int) (A : Option Addr) (c : Nat) (w : World) (hT : Tab w) (hc : 3 ≤ c) (hr : Kd.C Kd.string w A 3 [a, op, b])
    (hbin : ∀ w, Tab w → Calls Tryd.prog 14 #[.string op] w fun e w' => e = .returned (.bool true) ∧ Below w.heap.size w w')
    (hboth : ∀ w, Tab w → Calls Tryd.prog 15 #[.string a, .string op, .string b] w fun e w' => e = .returned (.int .i64 r) ∧ Below w.heap.size w w') :
    Calls Tryd.prog 35 #[.slice A 3 c, .slice none 0 0] w fun e w' => e = .returned (.int .i64 r) ∧ Below w.heap.size w w' := by
  have HR := Lib.hid hr
  have HBN := Lib.hid hbin
  have HBT := Lib.hid hboth
  have HT := Lib.hid hT
  obtain ⟨ad, rfl, hx0⟩ := Kd.at_string HR.out 0 (by decide) (by decide)
  obtain ⟨ad1, e1, hx1⟩ := Kd.at_string HR.out 1 (by decide) (by decide)
  obtain ⟨ad2, e2, hx2⟩ := Kd.at_string HR.out 2 (by decide) (by decide)
  cases e1
  cases e2
  have hl := World.block_lt_of_cell? w _ hx0
  have hx0' : w.cell? ad = some (.string a) := by simpa [Addr.add, rdOf] using hx0
  have hx1' : w.cell? ⟨ad.block, ad.off + 1, none⟩ = some (.string op) := by simpa [Addr.add, rdOf] using hx1
  have hx2' : w.cell? ⟨ad.block, ad.off + 2, none⟩ = some (.string b) := by simpa [Addr.add, rdOf] using hx2
  clear hr hbin hboth hT hx0 hx1 hx2
  go_enter Tryd.func35, Tryd.ntmps35
  go_wp2_with fail
  refine (HBN.out _ HT.out).mono ?_
  rintro e w1 ⟨rfl, hb1⟩
  have HB1 := Lib.hid hb1
  clear hb1
  have hy0 := (HB1.out.cell (World.block_lt_of_cell? w _ hx0')).trans hx0'
  have hy1 := (HB1.out.cell (World.block_lt_of_cell? w _ hx1')).trans hx1'
  have hy2 := (HB1.out.cell (World.block_lt_of_cell? w _ hx2')).trans hx2'
  clear hx0' hx1' hx2'
  have HT1 := Lib.hid (HT.out.below HB1.out)
  have mixed : Tryd.prog.follows Departure.mixedOrders = true := by kernel_rfl
  go_wp2_with fail
  go_region_with (go_at_call 15; refine (HBT.out _ (HT1.out.below (by first | exact Below.refl _ _ | exact (Below.refl _ _).drew))).mono ?_; rintro e w2 ⟨rfl, hb2⟩; have HB2 := Lib.hid (show Below w.heap.size w w2 from by first | exact below_next HB1.out HB1.out.size hb2 | exact below_next HB1.out.drew HB1.out.drew.size hb2); clear hb2)
  all_goals (go_wp2_with fail; go_ret; exact ⟨rfl, HB2.out⟩)
set_option maxHeartbeats 2000000 in
set_option maxRecDepth 100000 in
theorem eval3 (a op b : ByteArray) (r : Int) (A : Option Addr) (c : Nat) (w : World) (hT : Tab w) (hc : 3 ≤ c) (hr : Kd.C Kd.string w A 3 [a, op, b])
    (hbin : ∀ w, Tab w → Calls Tryd.prog 14 #[.string op] w fun e w' => e = .returned (.bool true) ∧ Below w.heap.size w w')
    (hboth : ∀ w, Tab w → Calls Tryd.prog 15 #[.string a, .string op, .string b] w fun e w' => e = .returned (.int .i64 r) ∧ Below w.heap.size w w') :
    Calls Tryd.prog 13 #[.slice A 3 c, .slice none 0 0] w fun e w' => e = .returned (.int .i64 r) ∧ Below w.heap.size w w' := by
  have HM := Lib.hid (more3 a op b r A c w hT hc hr hbin hboth)
  clear hr hbin hboth hT
  go_enter Tryd.func13, Tryd.ntmps13
  go_wp2_with fail
  refine HM.out.mono ?_
  rintro e w2 ⟨rfl, hb2⟩
  have HB2 := Lib.hid hb2
  clear hb2
  go_wp2_with fail
  go_ret
  exact ⟨rfl, HB2.out⟩
set_option maxHeartbeats 2000000 in
set_option maxRecDepth 100000 in
theorem eval0 (w : World) :
    Calls Tryd.prog 13 #[.slice none 0 0, .slice none 0 0] w fun e w' => e = .returned (.int .i64 1) ∧ Below w.heap.size w w' := by
  go_enter Tryd.func13, Tryd.ntmps13
  go_wp2_with fail
  go_ret
  exact ⟨rfl, Below.refl _ _⟩

theorem in_lt : test_in.f numsT ⟨#[45, 108, 116]⟩ = some true ∧ test_in.f textsT ⟨#[45, 108, 116]⟩ = some false ∧ test_in.f textsT ⟨#[61]⟩ = some true := by decide +kernel
theorem lt_35 : bothN ⟨#[45, 108, 116]⟩ ⟨#[51]⟩ ⟨#[53]⟩ = some 0 := by decide +kernel
theorem eval_lt (A : Option Addr) (c : Nat) (w : World) (hT : Tab w) (hc : 3 ≤ c) (hr : Kd.C Kd.string w A 3 [⟨#[51]⟩, ⟨#[45, 108, 116]⟩, ⟨#[53]⟩]) :
    Calls Tryd.prog 13 #[.slice A 3 c, .slice none 0 0] w fun e w' => e = .returned (.int .i64 0) ∧ Below w.heap.size w w' :=
  eval3 _ _ _ 0 A c w hT hc hr (fun w h => binary_n _ w h in_lt.2.1 in_lt.1) (fun w h => both_num _ _ _ 0 w h (by decide +kernel) (by decide +kernel) in_lt.1 lt_35)
theorem eval_eq (A : Option Addr) (c : Nat) (w : World) (hT : Tab w) (hc : 3 ≤ c) (hr : Kd.C Kd.string w A 3 [⟨#[]⟩, ⟨#[61]⟩, ⟨#[97]⟩]) :
    Calls Tryd.prog 13 #[.slice A 3 c, .slice none 0 0] w fun e w' => e = .returned (.int .i64 1) ∧ Below w.heap.size w w' :=
  eval3 _ _ _ 1 A c w hT hc hr (fun w h => binary_t _ w h in_lt.2.2) (fun w h => by have e := both_eq ⟨#[]⟩ ⟨#[97]⟩ w; rw [show st ((⟨#[]⟩ : ByteArray).toList == (⟨#[97]⟩ : ByteArray).toList) = 1 from by decide +kernel] at e; exact e)
/-! ### the laws -/
theorem lit3 (a b c : ByteArray) (w : World) : Kd.C Kd.string (w.alloc (.cells #[.string a, .string b, .string c] 9)) (some ⟨w.heap.size, 0, none⟩) 3 [a, b, c] := by
  have hrow : (w.alloc (.cells #[.string a, .string b, .string c] 9)).ownsRow w.heap.size 9 1 (.slice (some ⟨w.heap.size, 0, none⟩) 3 3) ([a, b, c] : List ByteArray).length ([a, b, c].map Value.string) :=
    ⟨by simp, .inr ⟨w.heap.size, 3, #[.string a, .string b, .string c], rfl, Nat.le_refl _, heap_alloc_new _ _, Nat.le_refl _, by decide, rfl, rfl⟩⟩
  exact (Kd.S_reads' (row_strings hrow)).2.2
set_option maxHeartbeats 4000000 in
set_option maxRecDepth 100000 in
theorem alive_calls (w : World) (hT : Tab w) :
    Calls Tryd.prog 12 #[] w fun e w' => e = .returned (.bool true) ∧ Below w.heap.size w w' := by
  have HT := Lib.hid hT
  clear hT
  go_enter Tryd.func12, Tryd.ntmps12
  go_wp2_with fail
  have HB0 := Lib.hid ((Below.refl w.heap.size w).alloc (Nat.le_refl _) (.cells #[.string ⟨#[51]⟩, .string ⟨#[45, 108, 116]⟩, .string ⟨#[53]⟩] 9))
  refine (eval_lt _ 3 _ (HT.out.below HB0.out) (Nat.le_refl _) (lit3 _ _ _ w)).mono ?_
  rintro e w1 ⟨rfl, hb1⟩
  have HB1 := Lib.hid (below_next HB0.out HB0.out.size hb1)
  clear hb1 HB0
  go_wp2_with fail
  have HB2 := Lib.hid (HB1.out.alloc HB1.out.size (.cells #[.string ⟨#[]⟩, .string ⟨#[61]⟩, .string ⟨#[97]⟩] 9))
  refine (eval_eq _ 3 _ (HT.out.below HB2.out) (Nat.le_refl _) (lit3 _ _ _ w1)).mono ?_
  rintro e w2 ⟨rfl, hb2⟩
  have HB3 := Lib.hid (below_next HB2.out HB2.out.size hb2)
  clear hb2 HB2
  go_wp2_with fail
  refine (eval0 _).mono ?_
  rintro e w3 ⟨rfl, hb3⟩
  have HB4 := Lib.hid (below_next HB3.out HB3.out.size hb3)
  clear hb3
  go_wp2_with fail
  go_ret
  exact ⟨rfl, HB4.out⟩
theorem inn_lt : Aside0 (test_in.f numsT ⟨#[45, 108, 116]⟩ = some true) := ⟨by decide +kernel⟩
theorem inn_eq : Aside0 (test_in.f numsT ⟨#[45, 101, 113]⟩ = some true) := ⟨by decide +kernel⟩
theorem inn_gt : Aside0 (test_in.f numsT ⟨#[45, 103, 116]⟩ = some true) := ⟨by decide +kernel⟩
theorem inn_ge : Aside0 (test_in.f numsT ⟨#[45, 103, 101]⟩ = some true) := ⟨by decide +kernel⟩
theorem inn_ne : Aside0 (test_in.f numsT ⟨#[45, 110, 101]⟩ = some true) := ⟨by decide +kernel⟩
theorem inn_le : Aside0 (test_in.f numsT ⟨#[45, 108, 101]⟩ = some true) := ⟨by decide +kernel⟩
set_option maxHeartbeats 4000000 in
set_option maxRecDepth 100000 in
theorem numbers_two (a b : ByteArray) (w : World) (hT : Tab w) (hlt : bothN ⟨#[45, 108, 116]⟩ a b = some 2) (heq : bothN ⟨#[45, 101, 113]⟩ a b = some 2) (hgt : bothN ⟨#[45, 103, 116]⟩ a b = some 2) (hge : bothN ⟨#[45, 103, 101]⟩ a b = some 2) (hne : bothN ⟨#[45, 110, 101]⟩ a b = some 2) (hle : bothN ⟨#[45, 108, 101]⟩ a b = some 2) :
    Calls Tryd.prog 5 #[.string a, .string b] w fun e w' => e = .returned (.bool true) ∧ Below w.heap.size w w' := by
  have HT := Lib.hid hT
  have Hlt := Lib.hid hlt
  have Heq := Lib.hid heq
  have Hgt := Lib.hid hgt
  have Hge := Lib.hid hge
  have Hne := Lib.hid hne
  have Hle := Lib.hid hle
  clear hT hlt heq hgt hge hne hle
  go_enter Tryd.func5, Tryd.ntmps5
  go_wp2_with fail
  refine (alive_calls _ HT.out).mono ?_
  rintro e w1 ⟨rfl, hb1⟩
  have HB1 := Lib.hid hb1
  clear hb1
  go_wp2_with fail
  refine (both_num ⟨#[45, 108, 116]⟩ a b 2 _ (HT.out.below HB1.out) (by decide +kernel) (by decide +kernel) inn_lt.out Hlt.out).mono ?_
  rintro e w2 ⟨rfl, hb2⟩
  have HB2 := Lib.hid (below_next HB1.out HB1.out.size hb2)
  clear hb2
  go_wp2_with fail
  refine (both_num ⟨#[45, 101, 113]⟩ a b 2 _ (HT.out.below HB2.out) (by decide +kernel) (by decide +kernel) inn_eq.out Heq.out).mono ?_
  rintro e w3 ⟨rfl, hb3⟩
  have HB3 := Lib.hid (below_next HB2.out HB2.out.size hb3)
  clear hb3
  go_wp2_with fail
  refine (both_num ⟨#[45, 103, 116]⟩ a b 2 _ (HT.out.below HB3.out) (by decide +kernel) (by decide +kernel) inn_gt.out Hgt.out).mono ?_
  rintro e w4 ⟨rfl, hb4⟩
  have HB4 := Lib.hid (below_next HB3.out HB3.out.size hb4)
  clear hb4
  go_wp2_with fail
  refine (both_num ⟨#[45, 103, 101]⟩ a b 2 _ (HT.out.below HB4.out) (by decide +kernel) (by decide +kernel) inn_ge.out Hge.out).mono ?_
  rintro e w5 ⟨rfl, hb5⟩
  have HB5 := Lib.hid (below_next HB4.out HB4.out.size hb5)
  clear hb5
  go_wp2_with fail
  refine (both_num ⟨#[45, 110, 101]⟩ a b 2 _ (HT.out.below HB5.out) (by decide +kernel) (by decide +kernel) inn_ne.out Hne.out).mono ?_
  rintro e w6 ⟨rfl, hb6⟩
  have HB6 := Lib.hid (below_next HB5.out HB5.out.size hb6)
  clear hb6
  go_wp2_with fail
  refine (both_num ⟨#[45, 108, 101]⟩ a b 2 _ (HT.out.below HB6.out) (by decide +kernel) (by decide +kernel) inn_le.out Hle.out).mono ?_
  rintro e w7 ⟨rfl, hb7⟩
  have HB7 := Lib.hid (below_next HB6.out HB6.out.size hb7)
  clear hb7
  go_wp2_with fail
  go_ret
  exact ⟨rfl, HB7.out⟩
set_option maxHeartbeats 4000000 in
set_option maxRecDepth 100000 in
theorem numbers_less (a b : ByteArray) (w : World) (hT : Tab w) (hlt : bothN ⟨#[45, 108, 116]⟩ a b = some 0) (heq : bothN ⟨#[45, 101, 113]⟩ a b = some 1) (hgt : bothN ⟨#[45, 103, 116]⟩ a b = some 1) (hge : bothN ⟨#[45, 103, 101]⟩ a b = some 1) (hne : bothN ⟨#[45, 110, 101]⟩ a b = some 0) (hle : bothN ⟨#[45, 108, 101]⟩ a b = some 0) :
    Calls Tryd.prog 5 #[.string a, .string b] w fun e w' => e = .returned (.bool true) ∧ Below w.heap.size w w' := by
  have HT := Lib.hid hT
  have Hlt := Lib.hid hlt
  have Heq := Lib.hid heq
  have Hgt := Lib.hid hgt
  have Hge := Lib.hid hge
  have Hne := Lib.hid hne
  have Hle := Lib.hid hle
  clear hT hlt heq hgt hge hne hle
  go_enter Tryd.func5, Tryd.ntmps5
  go_wp2_with fail
  refine (alive_calls _ HT.out).mono ?_
  rintro e w1 ⟨rfl, hb1⟩
  have HB1 := Lib.hid hb1
  clear hb1
  go_wp2_with fail
  refine (both_num ⟨#[45, 108, 116]⟩ a b 0 _ (HT.out.below HB1.out) (by decide +kernel) (by decide +kernel) inn_lt.out Hlt.out).mono ?_
  rintro e w2 ⟨rfl, hb2⟩
  have HB2 := Lib.hid (below_next HB1.out HB1.out.size hb2)
  clear hb2
  go_wp2_with fail
  refine (both_num ⟨#[45, 101, 113]⟩ a b 1 _ (HT.out.below HB2.out) (by decide +kernel) (by decide +kernel) inn_eq.out Heq.out).mono ?_
  rintro e w3 ⟨rfl, hb3⟩
  have HB3 := Lib.hid (below_next HB2.out HB2.out.size hb3)
  clear hb3
  go_wp2_with fail
  refine (both_num ⟨#[45, 103, 116]⟩ a b 1 _ (HT.out.below HB3.out) (by decide +kernel) (by decide +kernel) inn_gt.out Hgt.out).mono ?_
  rintro e w4 ⟨rfl, hb4⟩
  have HB4 := Lib.hid (below_next HB3.out HB3.out.size hb4)
  clear hb4
  go_wp2_with fail
  refine (both_num ⟨#[45, 103, 101]⟩ a b 1 _ (HT.out.below HB4.out) (by decide +kernel) (by decide +kernel) inn_ge.out Hge.out).mono ?_
  rintro e w5 ⟨rfl, hb5⟩
  have HB5 := Lib.hid (below_next HB4.out HB4.out.size hb5)
  clear hb5
  go_wp2_with fail
  refine (both_num ⟨#[45, 110, 101]⟩ a b 0 _ (HT.out.below HB5.out) (by decide +kernel) (by decide +kernel) inn_ne.out Hne.out).mono ?_
  rintro e w6 ⟨rfl, hb6⟩
  have HB6 := Lib.hid (below_next HB5.out HB5.out.size hb6)
  clear hb6
  go_wp2_with fail
  refine (both_num ⟨#[45, 108, 101]⟩ a b 0 _ (HT.out.below HB6.out) (by decide +kernel) (by decide +kernel) inn_le.out Hle.out).mono ?_
  rintro e w7 ⟨rfl, hb7⟩
  have HB7 := Lib.hid (below_next HB6.out HB6.out.size hb7)
  clear hb7
  go_wp2_with fail
  go_ret
  exact ⟨rfl, HB7.out⟩
set_option maxHeartbeats 4000000 in
set_option maxRecDepth 100000 in
theorem numbers_same (a b : ByteArray) (w : World) (hT : Tab w) (hlt : bothN ⟨#[45, 108, 116]⟩ a b = some 1) (heq : bothN ⟨#[45, 101, 113]⟩ a b = some 0) (hgt : bothN ⟨#[45, 103, 116]⟩ a b = some 1) (hge : bothN ⟨#[45, 103, 101]⟩ a b = some 0) (hne : bothN ⟨#[45, 110, 101]⟩ a b = some 1) (hle : bothN ⟨#[45, 108, 101]⟩ a b = some 0) :
    Calls Tryd.prog 5 #[.string a, .string b] w fun e w' => e = .returned (.bool true) ∧ Below w.heap.size w w' := by
  have HT := Lib.hid hT
  have Hlt := Lib.hid hlt
  have Heq := Lib.hid heq
  have Hgt := Lib.hid hgt
  have Hge := Lib.hid hge
  have Hne := Lib.hid hne
  have Hle := Lib.hid hle
  clear hT hlt heq hgt hge hne hle
  go_enter Tryd.func5, Tryd.ntmps5
  go_wp2_with fail
  refine (alive_calls _ HT.out).mono ?_
  rintro e w1 ⟨rfl, hb1⟩
  have HB1 := Lib.hid hb1
  clear hb1
  go_wp2_with fail
  refine (both_num ⟨#[45, 108, 116]⟩ a b 1 _ (HT.out.below HB1.out) (by decide +kernel) (by decide +kernel) inn_lt.out Hlt.out).mono ?_
  rintro e w2 ⟨rfl, hb2⟩
  have HB2 := Lib.hid (below_next HB1.out HB1.out.size hb2)
  clear hb2
  go_wp2_with fail
  refine (both_num ⟨#[45, 101, 113]⟩ a b 0 _ (HT.out.below HB2.out) (by decide +kernel) (by decide +kernel) inn_eq.out Heq.out).mono ?_
  rintro e w3 ⟨rfl, hb3⟩
  have HB3 := Lib.hid (below_next HB2.out HB2.out.size hb3)
  clear hb3
  go_wp2_with fail
  refine (both_num ⟨#[45, 103, 116]⟩ a b 1 _ (HT.out.below HB3.out) (by decide +kernel) (by decide +kernel) inn_gt.out Hgt.out).mono ?_
  rintro e w4 ⟨rfl, hb4⟩
  have HB4 := Lib.hid (below_next HB3.out HB3.out.size hb4)
  clear hb4
  go_wp2_with fail
  refine (both_num ⟨#[45, 103, 101]⟩ a b 0 _ (HT.out.below HB4.out) (by decide +kernel) (by decide +kernel) inn_ge.out Hge.out).mono ?_
  rintro e w5 ⟨rfl, hb5⟩
  have HB5 := Lib.hid (below_next HB4.out HB4.out.size hb5)
  clear hb5
  go_wp2_with fail
  refine (both_num ⟨#[45, 110, 101]⟩ a b 1 _ (HT.out.below HB5.out) (by decide +kernel) (by decide +kernel) inn_ne.out Hne.out).mono ?_
  rintro e w6 ⟨rfl, hb6⟩
  have HB6 := Lib.hid (below_next HB5.out HB5.out.size hb6)
  clear hb6
  go_wp2_with fail
  refine (both_num ⟨#[45, 108, 101]⟩ a b 0 _ (HT.out.below HB6.out) (by decide +kernel) (by decide +kernel) inn_le.out Hle.out).mono ?_
  rintro e w7 ⟨rfl, hb7⟩
  have HB7 := Lib.hid (below_next HB6.out HB6.out.size hb7)
  clear hb7
  go_wp2_with fail
  go_ret
  exact ⟨rfl, HB7.out⟩
set_option maxHeartbeats 4000000 in
set_option maxRecDepth 100000 in
theorem numbers_more (a b : ByteArray) (w : World) (hT : Tab w) (hlt : bothN ⟨#[45, 108, 116]⟩ a b = some 1) (heq : bothN ⟨#[45, 101, 113]⟩ a b = some 1) (hgt : bothN ⟨#[45, 103, 116]⟩ a b = some 0) (hge : bothN ⟨#[45, 103, 101]⟩ a b = some 0) (hne : bothN ⟨#[45, 110, 101]⟩ a b = some 0) (hle : bothN ⟨#[45, 108, 101]⟩ a b = some 1) :
    Calls Tryd.prog 5 #[.string a, .string b] w fun e w' => e = .returned (.bool true) ∧ Below w.heap.size w w' := by
  have HT := Lib.hid hT
  have Hlt := Lib.hid hlt
  have Heq := Lib.hid heq
  have Hgt := Lib.hid hgt
  have Hge := Lib.hid hge
  have Hne := Lib.hid hne
  have Hle := Lib.hid hle
  clear hT hlt heq hgt hge hne hle
  go_enter Tryd.func5, Tryd.ntmps5
  go_wp2_with fail
  refine (alive_calls _ HT.out).mono ?_
  rintro e w1 ⟨rfl, hb1⟩
  have HB1 := Lib.hid hb1
  clear hb1
  go_wp2_with fail
  refine (both_num ⟨#[45, 108, 116]⟩ a b 1 _ (HT.out.below HB1.out) (by decide +kernel) (by decide +kernel) inn_lt.out Hlt.out).mono ?_
  rintro e w2 ⟨rfl, hb2⟩
  have HB2 := Lib.hid (below_next HB1.out HB1.out.size hb2)
  clear hb2
  go_wp2_with fail
  refine (both_num ⟨#[45, 101, 113]⟩ a b 1 _ (HT.out.below HB2.out) (by decide +kernel) (by decide +kernel) inn_eq.out Heq.out).mono ?_
  rintro e w3 ⟨rfl, hb3⟩
  have HB3 := Lib.hid (below_next HB2.out HB2.out.size hb3)
  clear hb3
  go_wp2_with fail
  refine (both_num ⟨#[45, 103, 116]⟩ a b 0 _ (HT.out.below HB3.out) (by decide +kernel) (by decide +kernel) inn_gt.out Hgt.out).mono ?_
  rintro e w4 ⟨rfl, hb4⟩
  have HB4 := Lib.hid (below_next HB3.out HB3.out.size hb4)
  clear hb4
  go_wp2_with fail
  refine (both_num ⟨#[45, 103, 101]⟩ a b 0 _ (HT.out.below HB4.out) (by decide +kernel) (by decide +kernel) inn_ge.out Hge.out).mono ?_
  rintro e w5 ⟨rfl, hb5⟩
  have HB5 := Lib.hid (below_next HB4.out HB4.out.size hb5)
  clear hb5
  go_wp2_with fail
  refine (both_num ⟨#[45, 110, 101]⟩ a b 0 _ (HT.out.below HB5.out) (by decide +kernel) (by decide +kernel) inn_ne.out Hne.out).mono ?_
  rintro e w6 ⟨rfl, hb6⟩
  have HB6 := Lib.hid (below_next HB5.out HB5.out.size hb6)
  clear hb6
  go_wp2_with fail
  refine (both_num ⟨#[45, 108, 101]⟩ a b 1 _ (HT.out.below HB6.out) (by decide +kernel) (by decide +kernel) inn_le.out Hle.out).mono ?_
  rintro e w7 ⟨rfl, hb7⟩
  have HB7 := Lib.hid (below_next HB6.out HB6.out.size hb7)
  clear hb7
  go_wp2_with fail
  go_ret
  exact ⟨rfl, HB7.out⟩
set_option maxHeartbeats 4000000 in
set_option maxRecDepth 100000 in
theorem texts_11 (a b : ByteArray) (w : World) (hT : Tab w) (h1 : (a.toList == b.toList) = true) (h2 : a.toList.isEmpty = true) :
    Calls Tryd.prog 4 #[.string a, .string b] w fun e w' => e = .returned (.bool true) ∧ Below w.heap.size w w' := by
  have HT := Lib.hid hT
  have H1 := fun w => both_eq a b w
  have H2 := fun w => both_ne a b w
  have H3 := fun w => single_n a w
  have H4 := fun w => single_z a w
  rw [h1, show st true = 0 from rfl] at H1
  rw [show (a.toList != b.toList) = !(a.toList == b.toList) from rfl, h1, show st (!true) = 1 from rfl] at H2
  rw [h2, show st (!true) = 1 from rfl] at H3
  rw [h2, show st true = 0 from rfl] at H4
  replace H1 := Lib.hid H1
  replace H2 := Lib.hid H2
  replace H3 := Lib.hid H3
  replace H4 := Lib.hid H4
  clear hT
  go_enter Tryd.func4, Tryd.ntmps4
  go_wp2_with fail
  refine (alive_calls _ HT.out).mono ?_
  rintro e w1 ⟨rfl, hb1⟩
  have HB1 := Lib.hid hb1
  clear hb1
  go_wp2_with fail
  refine (H1.out _).mono ?_
  rintro e w2 ⟨rfl, hb2⟩
  have HB2 := Lib.hid (below_next HB1.out HB1.out.size hb2)
  clear hb2
  go_wp2_with fail
  refine (H2.out _).mono ?_
  rintro e w3 ⟨rfl, hb3⟩
  have HB3 := Lib.hid (below_next HB2.out HB2.out.size hb3)
  clear hb3
  go_wp2_with fail
  refine (H3.out _).mono ?_
  rintro e w4 ⟨rfl, hb4⟩
  have HB4 := Lib.hid (below_next HB3.out HB3.out.size hb4)
  clear hb4
  go_wp2_with fail
  refine (H4.out _).mono ?_
  rintro e w5 ⟨rfl, hb5⟩
  have HB5 := Lib.hid (below_next HB4.out HB4.out.size hb5)
  clear hb5
  go_wp2_with fail
  refine (H4.out _).mono ?_
  rintro e w6 ⟨rfl, hb6⟩
  have HB6 := Lib.hid (below_next HB5.out HB5.out.size hb6)
  clear hb6
  go_wp2_with fail
  go_ret
  exact ⟨rfl, HB6.out⟩
set_option maxHeartbeats 4000000 in
set_option maxRecDepth 100000 in
theorem texts_10 (a b : ByteArray) (w : World) (hT : Tab w) (h1 : (a.toList == b.toList) = true) (h2 : a.toList.isEmpty = false) :
    Calls Tryd.prog 4 #[.string a, .string b] w fun e w' => e = .returned (.bool true) ∧ Below w.heap.size w w' := by
  have HT := Lib.hid hT
  have H1 := fun w => both_eq a b w
  have H2 := fun w => both_ne a b w
  have H3 := fun w => single_n a w
  have H4 := fun w => single_z a w
  rw [h1, show st true = 0 from rfl] at H1
  rw [show (a.toList != b.toList) = !(a.toList == b.toList) from rfl, h1, show st (!true) = 1 from rfl] at H2
  rw [h2, show st (!false) = 0 from rfl] at H3
  rw [h2, show st false = 1 from rfl] at H4
  replace H1 := Lib.hid H1
  replace H2 := Lib.hid H2
  replace H3 := Lib.hid H3
  replace H4 := Lib.hid H4
  clear hT
  go_enter Tryd.func4, Tryd.ntmps4
  go_wp2_with fail
  refine (alive_calls _ HT.out).mono ?_
  rintro e w1 ⟨rfl, hb1⟩
  have HB1 := Lib.hid hb1
  clear hb1
  go_wp2_with fail
  refine (H1.out _).mono ?_
  rintro e w2 ⟨rfl, hb2⟩
  have HB2 := Lib.hid (below_next HB1.out HB1.out.size hb2)
  clear hb2
  go_wp2_with fail
  refine (H2.out _).mono ?_
  rintro e w3 ⟨rfl, hb3⟩
  have HB3 := Lib.hid (below_next HB2.out HB2.out.size hb3)
  clear hb3
  go_wp2_with fail
  refine (H3.out _).mono ?_
  rintro e w4 ⟨rfl, hb4⟩
  have HB4 := Lib.hid (below_next HB3.out HB3.out.size hb4)
  clear hb4
  go_wp2_with fail
  refine (H4.out _).mono ?_
  rintro e w5 ⟨rfl, hb5⟩
  have HB5 := Lib.hid (below_next HB4.out HB4.out.size hb5)
  clear hb5
  go_wp2_with fail
  refine (H4.out _).mono ?_
  rintro e w6 ⟨rfl, hb6⟩
  have HB6 := Lib.hid (below_next HB5.out HB5.out.size hb6)
  clear hb6
  go_wp2_with fail
  go_ret
  exact ⟨rfl, HB6.out⟩
set_option maxHeartbeats 4000000 in
set_option maxRecDepth 100000 in
theorem texts_01 (a b : ByteArray) (w : World) (hT : Tab w) (h1 : (a.toList == b.toList) = false) (h2 : a.toList.isEmpty = true) :
    Calls Tryd.prog 4 #[.string a, .string b] w fun e w' => e = .returned (.bool true) ∧ Below w.heap.size w w' := by
  have HT := Lib.hid hT
  have H1 := fun w => both_eq a b w
  have H2 := fun w => both_ne a b w
  have H3 := fun w => single_n a w
  have H4 := fun w => single_z a w
  rw [h1, show st false = 1 from rfl] at H1
  rw [show (a.toList != b.toList) = !(a.toList == b.toList) from rfl, h1, show st (!false) = 0 from rfl] at H2
  rw [h2, show st (!true) = 1 from rfl] at H3
  rw [h2, show st true = 0 from rfl] at H4
  replace H1 := Lib.hid H1
  replace H2 := Lib.hid H2
  replace H3 := Lib.hid H3
  replace H4 := Lib.hid H4
  clear hT
  go_enter Tryd.func4, Tryd.ntmps4
  go_wp2_with fail
  refine (alive_calls _ HT.out).mono ?_
  rintro e w1 ⟨rfl, hb1⟩
  have HB1 := Lib.hid hb1
  clear hb1
  go_wp2_with fail
  refine (H1.out _).mono ?_
  rintro e w2 ⟨rfl, hb2⟩
  have HB2 := Lib.hid (below_next HB1.out HB1.out.size hb2)
  clear hb2
  go_wp2_with fail
  refine (H2.out _).mono ?_
  rintro e w3 ⟨rfl, hb3⟩
  have HB3 := Lib.hid (below_next HB2.out HB2.out.size hb3)
  clear hb3
  go_wp2_with fail
  refine (H3.out _).mono ?_
  rintro e w4 ⟨rfl, hb4⟩
  have HB4 := Lib.hid (below_next HB3.out HB3.out.size hb4)
  clear hb4
  go_wp2_with fail
  refine (H4.out _).mono ?_
  rintro e w5 ⟨rfl, hb5⟩
  have HB5 := Lib.hid (below_next HB4.out HB4.out.size hb5)
  clear hb5
  go_wp2_with fail
  refine (H4.out _).mono ?_
  rintro e w6 ⟨rfl, hb6⟩
  have HB6 := Lib.hid (below_next HB5.out HB5.out.size hb6)
  clear hb6
  go_wp2_with fail
  go_ret
  exact ⟨rfl, HB6.out⟩
set_option maxHeartbeats 4000000 in
set_option maxRecDepth 100000 in
theorem texts_00 (a b : ByteArray) (w : World) (hT : Tab w) (h1 : (a.toList == b.toList) = false) (h2 : a.toList.isEmpty = false) :
    Calls Tryd.prog 4 #[.string a, .string b] w fun e w' => e = .returned (.bool true) ∧ Below w.heap.size w w' := by
  have HT := Lib.hid hT
  have H1 := fun w => both_eq a b w
  have H2 := fun w => both_ne a b w
  have H3 := fun w => single_n a w
  have H4 := fun w => single_z a w
  rw [h1, show st false = 1 from rfl] at H1
  rw [show (a.toList != b.toList) = !(a.toList == b.toList) from rfl, h1, show st (!false) = 0 from rfl] at H2
  rw [h2, show st (!false) = 0 from rfl] at H3
  rw [h2, show st false = 1 from rfl] at H4
  replace H1 := Lib.hid H1
  replace H2 := Lib.hid H2
  replace H3 := Lib.hid H3
  replace H4 := Lib.hid H4
  clear hT
  go_enter Tryd.func4, Tryd.ntmps4
  go_wp2_with fail
  refine (alive_calls _ HT.out).mono ?_
  rintro e w1 ⟨rfl, hb1⟩
  have HB1 := Lib.hid hb1
  clear hb1
  go_wp2_with fail
  refine (H1.out _).mono ?_
  rintro e w2 ⟨rfl, hb2⟩
  have HB2 := Lib.hid (below_next HB1.out HB1.out.size hb2)
  clear hb2
  go_wp2_with fail
  refine (H2.out _).mono ?_
  rintro e w3 ⟨rfl, hb3⟩
  have HB3 := Lib.hid (below_next HB2.out HB2.out.size hb3)
  clear hb3
  go_wp2_with fail
  refine (H3.out _).mono ?_
  rintro e w4 ⟨rfl, hb4⟩
  have HB4 := Lib.hid (below_next HB3.out HB3.out.size hb4)
  clear hb4
  go_wp2_with fail
  refine (H4.out _).mono ?_
  rintro e w5 ⟨rfl, hb5⟩
  have HB5 := Lib.hid (below_next HB4.out HB4.out.size hb5)
  clear hb5
  go_wp2_with fail
  refine (H4.out _).mono ?_
  rintro e w6 ⟨rfl, hb6⟩
  have HB6 := Lib.hid (below_next HB5.out HB5.out.size hb6)
  clear hb6
  go_wp2_with fail
  go_ret
  exact ⟨rfl, HB6.out⟩
end Go.Proofs.YtdfddiehiiaepaaDoor.Ext

/- Proved: test.Eval's call, of any words; where the table of blanks holds what its initialiser lays. Conditions: as those of the calls that it makes. -/
import Derived.Test.YtdfddiehiiaepaaGreatDoorVsQ1
import Derived.Deep.RegionWith
set_option linter.unusedVariables false
set_option linter.unusedSimpArgs false
namespace Go.Proofs.YtdfddiehiiaepaaGreatDoor.Ext
open Go.RowKit Go.Shelf Go.Proofs.YtdfddiehiiaepaaGreatDoorW.PrintWords Go.Proofs.YtdfddiehiiaepaaGreatDoor.P
/-- What a call of Eval (more) with these words answers. -/
def AskC (fn : Nat) (l : List ByteArray) (t : List S73) (r : Int) : Prop :=
  ∀ (A : Option Addr) (c : Nat) (AT : Option Addr) (ct : Nat) (w : World), Tab w → Kd.C Kd.string w A l.length l → l.length ≤ c → Kd.C k73 w AT t.length t → t.length ≤ ct →
    Calls Tryz.prog fn #[.slice A l.length c, .slice AT t.length ct] w fun e w' => e = .returned (.int .i64 r) ∧ Below w.heap.size w w'
theorem word_addr {w : World} {A : Option Addr} {l : List ByteArray} (h : Kd.C Kd.string w A l.length l) (hp : 0 < l.length) : ∃ bk o, A = some ⟨bk, o, none⟩ := by
  obtain ⟨⟨b, o, s⟩, e, hc⟩ := cells_of_strings h hp
  cases s with
  | none => exact ⟨b, o, e⟩
  | some q =>
    have h0 := hc 0 l[0] (List.getElem?_eq_getElem hp)
    unfold World.cell? at h0
    split at h0 <;> simp [Addr.add] at h0
theorem cell_wordj {w : World} {bk o : Nat} {l : List ByteArray} (h : Kd.C Kd.string w (some ⟨bk, o, none⟩) l.length l) (j : Nat) (x : ByteArray) (hj : l[j]? = some x) : w.cell? ⟨bk, o + j, none⟩ = some (.string x) := by
  obtain ⟨ad', e, hc⟩ := cells_of_strings h (by have := (List.getElem?_eq_some_iff.1 hj).1; omega)
  cases e
  have := hc j x hj
  rwa [addr_add] at this
theorem C_tail {w : World} {bk o c : Nat} {l : List ByteArray} (h : Kd.C Kd.string w (some ⟨bk, o, none⟩) l.length l) (h1 : 1 < l.length) (hc : l.length ≤ c) : Kd.C Kd.string w (some ⟨bk, o + 1, none⟩) (l.drop 1).length (l.drop 1) := by
  have hd := Kd.C_drop (m := 1) h (by omega) hc
  rw [if_neg (by omega)] at hd
  have e : Option.map (fun x : Addr => x.add (1 * Kd.string.sz)) (some (⟨bk, o, none⟩ : Addr)) = some ⟨bk, o + 1, none⟩ := by
    rw [Option.map_some]
    exact congrArg some (addr_add bk o 1)
  rwa [e] at hd
theorem C_inner {w : World} {bk o c hi : Nat} {l : List ByteArray} (h : Kd.C Kd.string w (some ⟨bk, o, none⟩) l.length l) (h1 : 1 ≤ hi) (h2 : hi ≤ l.length) (h3 : 1 < l.length) (hc : l.length ≤ c) : Kd.C Kd.string w (some ⟨bk, o + 1, none⟩) ((l.take hi).drop 1).length ((l.take hi).drop 1) := by
  have hd := Kd.C_mid (lo := 1) (hi := hi) h h1 h2 hc
  rw [if_neg (by omega)] at hd
  have e : Option.map (fun x : Addr => x.add (1 * Kd.string.sz)) (some (⟨bk, o, none⟩ : Addr)) = some ⟨bk, o + 1, none⟩ := by
    rw [Option.map_some]
    exact congrArg some (addr_add bk o 1)
  rwa [e] at hd
theorem block_lt7 {w : World} {bk o : Nat} {v : Value} (h : w.cell? ⟨bk, o, none⟩ = some v) : bk < w.heap.size := World.block_lt_of_cell? w ⟨bk, o, none⟩ h
set_option maxHeartbeats 4000000 in
set_option maxRecDepth 100000 in
theorem eval_0 (t : List S73) : AskC 5 [] t 1 := by
  intro A c AT ct w hT hr hc ht hct
  clear hT hr ht
  go_enter Tryz.func5, Tryz.ntmps5
  go_wp2_with fail
  go_ret
  exact ⟨rfl, Below.refl _ _⟩
set_option maxHeartbeats 4000000 in
set_option maxRecDepth 100000 in
theorem eval_1 (a : ByteArray) (t : List S73) (r : Int) (h : Q.test_status.f (!a.toList.isEmpty) = some r) : AskC 5 [a] t r := by
  intro A c AT ct w hT hr hc ht hct
  obtain ⟨bk, o, rfl⟩ := word_addr hr (by simp)
  have h0 := cell_wordj hr 0 a rfl
  rw [Nat.add_zero] at h0
  have hlt := block_lt7 h0
  have HR := Lib.hid hr
  have HT := Lib.hid hT
  have HTR := Lib.hid ht
  clear hT hr ht
  go_enter Tryz.func5, Tryz.ntmps5
  go_wp2_with fail
  refine (Q.test_status.calls _ r _ h).mono ?_
  rintro e w1 ⟨rfl, ⟨n1, rfl⟩⟩
  go_wp2_with fail
  go_ret
  exact ⟨rfl, pw_below_drewN (Below.refl _ _) n1⟩
set_option maxHeartbeats 4000000 in
set_option maxRecDepth 100000 in
theorem eval_2n (a b : ByteArray) (t : List S73) (r : Int) (n : Int) (ha : (a.toList == [33]) = true) (he : AskC 5 [b] t n) (h : Q.test_opposite.f n = some r) : AskC 5 [a, b] t r := by
  intro A c AT ct w hT hr hc ht hct
  obtain ⟨bk, o, rfl⟩ := word_addr hr (by simp)
  have h0 := cell_wordj hr 0 a rfl
  have h1 := cell_wordj hr 1 b rfl
  rw [Nat.add_zero] at h0
  have hlt := block_lt7 h0
  have HR := Lib.hid hr
  have HT := Lib.hid hT
  have HTR := Lib.hid ht
  have HC := Lib.hid (he _ (c - 1) AT ct w hT (C_tail hr (by simp) hc) (by simp at hc; show 1 ≤ c - 1; omega) ht hct)
  simp at hc
  have hc2 : 1 ≤ c := by omega
  have hc1 : ¬ (c = 1) := by omega
  clear hT hr he ht
  go_enter Tryz.func5, Tryz.ntmps5
  go_wp2_with fail
  refine HC.out.mono ?_
  rintro e w1 ⟨rfl, hb1⟩
  have HB1 := Lib.hid hb1
  clear hb1
  go_wp2_with fail
  refine (Q.test_opposite.calls n r _ h).mono ?_
  rintro e w2 ⟨rfl, ⟨n2, rfl⟩⟩
  go_wp2_with fail
  go_ret
  exact ⟨rfl, pw_below_drewN HB1.out n2⟩
set_option maxHeartbeats 4000000 in
set_option maxRecDepth 100000 in
theorem eval_2s (a b : ByteArray) (t : List S73) (r : Int) (ha : (a.toList == [33]) = false) (h : Q.test_Single.f a b t = some r) : AskC 5 [a, b] t r := by
  intro A c AT ct w hT hr hc ht hct
  obtain ⟨bk, o, rfl⟩ := word_addr hr (by simp)
  have h0 := cell_wordj hr 0 a rfl
  have h1 := cell_wordj hr 1 b rfl
  rw [Nat.add_zero] at h0
  have hlt := block_lt7 h0
  have HR := Lib.hid hr
  have HT := Lib.hid hT
  have HTR := Lib.hid ht
  have HS := Lib.hid (fun w hr => Q.test_Single.calls a b AT ct t r w hr hct h)
  have mixed : Tryz.prog.follows Departure.mixedOrders = true := by kernel_rfl
  simp at hc
  clear hT hr ht
  go_enter Tryz.func5, Tryz.ntmps5
  go_wp2_with fail
  go_region_with (go_at_call 11; refine (HS.out _ (Kd.C_below HTR.out (by first | exact Below.refl _ _ | exact (Below.refl _ _).drew))).mono ?_; rintro e w2 ⟨rfl, hb2⟩; have HB2 := Lib.hid (show Below w.heap.size w w2 from by first | exact hb2 | exact below_next (Below.refl _ _).drew (Nat.le_refl _) hb2); clear hb2)
  all_goals (go_wp2_with fail; go_ret; exact ⟨rfl, HB2.out⟩)
set_option maxHeartbeats 4000000 in
set_option maxRecDepth 100000 in
theorem eval_3 (a b x : ByteArray) (t : List S73) (r : Int) (h : AskC 41 [a, b, x] t r) : AskC 5 [a, b, x] t r := by
  intro A c AT ct w hT hr hc ht hct
  obtain ⟨bk, o, rfl⟩ := word_addr hr (by simp)
  have h0 := cell_wordj hr 0 a rfl
  have h1 := cell_wordj hr 1 b rfl
  have h2 := cell_wordj hr 2 x rfl
  rw [Nat.add_zero] at h0
  have hlt := block_lt7 h0
  have HR := Lib.hid hr
  have HT := Lib.hid hT
  have HTR := Lib.hid ht
  have HC := Lib.hid (h _ c AT ct w hT hr hc ht hct)
  simp at hc
  clear hT hr ht
  go_enter Tryz.func5, Tryz.ntmps5
  go_wp2_with fail
  refine HC.out.mono ?_
  rintro e w1 ⟨rfl, hb1⟩
  have HB1 := Lib.hid hb1
  clear hb1
  go_wp2_with fail
  go_ret
  exact ⟨rfl, HB1.out⟩
set_option maxHeartbeats 4000000 in
set_option maxRecDepth 100000 in
theorem eval_4 (a b x y : ByteArray) (t : List S73) (r : Int) (h : AskC 41 [a, b, x, y] t r) : AskC 5 [a, b, x, y] t r := by
  intro A c AT ct w hT hr hc ht hct
  obtain ⟨bk, o, rfl⟩ := word_addr hr (by simp)
  have h0 := cell_wordj hr 0 a rfl
  have h1 := cell_wordj hr 1 b rfl
  have h2 := cell_wordj hr 2 x rfl
  have h3 := cell_wordj hr 3 y rfl
  rw [Nat.add_zero] at h0
  have hlt := block_lt7 h0
  have HR := Lib.hid hr
  have HT := Lib.hid hT
  have HTR := Lib.hid ht
  have HC := Lib.hid (h _ c AT ct w hT hr hc ht hct)
  simp at hc
  clear hT hr ht
  go_enter Tryz.func5, Tryz.ntmps5
  go_wp2_with fail
  refine HC.out.mono ?_
  rintro e w1 ⟨rfl, hb1⟩
  have HB1 := Lib.hid hb1
  clear hb1
  go_wp2_with fail
  go_ret
  exact ⟨rfl, HB1.out⟩
set_option maxHeartbeats 4000000 in
set_option maxRecDepth 100000 in
theorem more_3b (a b x : ByteArray) (t : List S73) (r : Int) (hbin : Q.test_Binary.f b = some true) (h : Q.test_Both.f 1 a b x = some r) : AskC 41 [a, b, x] t r := by
  intro A c AT ct w hT hr hc ht hct
  obtain ⟨bk, o, rfl⟩ := word_addr hr (by simp)
  have h0 := cell_wordj hr 0 a rfl
  have h1 := cell_wordj hr 1 b rfl
  have h2 := cell_wordj hr 2 x rfl
  rw [Nat.add_zero] at h0
  have hlt := block_lt7 h0
  have HR := Lib.hid hr
  have HT := Lib.hid hT
  have HTR := Lib.hid ht
  have HBN := Lib.hid (Q.test_Binary.calls b true w hT hbin)
  have HBT := Lib.hid (fun w hT => Q.test_Both.calls 1 a b x r w hT h)
  simp at hc
  have mixed : Tryz.prog.follows Departure.mixedOrders = true := by kernel_rfl
  clear hT hr ht
  go_enter Tryz.func41, Tryz.ntmps41
  go_wp2_with fail
  refine HBN.out.mono ?_
  rintro e w1 ⟨rfl, hb1⟩
  have HB1 := Lib.hid hb1
  clear hb1
  have g0 := (HB1.out.cell (p := ⟨bk, o, none⟩) hlt).trans h0
  have g1 := (HB1.out.cell (p := ⟨bk, o + 1, none⟩) hlt).trans h1
  have g2 := (HB1.out.cell (p := ⟨bk, o + 2, none⟩) hlt).trans h2
  have HT1 := Lib.hid (HT.out.below HB1.out)
  have HR1 := Lib.hid (Kd.C_below HR.out HB1.out)
  have HTR1 := Lib.hid (Kd.C_below HTR.out HB1.out)
  clear h0 h1 h2
  go_wp2_with fail
  go_region_with (go_at_call 13; refine (HBT.out _ (HT1.out.below (by first | exact Below.refl _ _ | exact (Below.refl _ _).drew))).mono ?_; rintro e w2 ⟨rfl, hb2⟩; have HB2 := Lib.hid (show Below w.heap.size w w2 from by first | exact below_next HB1.out HB1.out.size hb2 | exact below_next HB1.out.drew HB1.out.drew.size hb2); clear hb2)
  all_goals (go_wp2_with fail; go_ret; exact ⟨rfl, HB2.out⟩)
set_option maxHeartbeats 4000000 in
set_option maxRecDepth 100000 in
theorem more_3n (a b x : ByteArray) (t : List S73) (r : Int) (n : Int) (hbin : Q.test_Binary.f b = some false) (ha : (a.toList == [33]) = true) (he : AskC 5 [b, x] t n) (h : Q.test_opposite.f n = some r) : AskC 41 [a, b, x] t r := by
  intro A c AT ct w hT hr hc ht hct
  obtain ⟨bk, o, rfl⟩ := word_addr hr (by simp)
  have h0 := cell_wordj hr 0 a rfl
  have h1 := cell_wordj hr 1 b rfl
  have h2 := cell_wordj hr 2 x rfl
  rw [Nat.add_zero] at h0
  have hlt := block_lt7 h0
  have HR := Lib.hid hr
  have HT := Lib.hid hT
  have HTR := Lib.hid ht
  have HBN := Lib.hid (Q.test_Binary.calls b false w hT hbin)
  have HC := Lib.hid (fun w hT hr ht => he _ (c - 1) AT ct w hT (C_tail (bk := bk) (o := o) (c := c) (l := [a, b, x]) hr (by simp) hc) (by simp at hc; show 2 ≤ c - 1; omega) ht hct)
  have hcc := hc
  simp at hc
  have hc2 : 1 ≤ c := by omega
  have hc1 : ¬ (c = 1) := by omega
  clear hT hr ht he
  go_enter Tryz.func41, Tryz.ntmps41
  go_wp2_with fail
  refine HBN.out.mono ?_
  rintro e w1 ⟨rfl, hb1⟩
  have HB1 := Lib.hid hb1
  clear hb1
  have g0 := (HB1.out.cell (p := ⟨bk, o, none⟩) hlt).trans h0
  have g1 := (HB1.out.cell (p := ⟨bk, o + 1, none⟩) hlt).trans h1
  have g2 := (HB1.out.cell (p := ⟨bk, o + 2, none⟩) hlt).trans h2
  have HT1 := Lib.hid (HT.out.below HB1.out)
  have HR1 := Lib.hid (Kd.C_below HR.out HB1.out)
  have HTR1 := Lib.hid (Kd.C_below HTR.out HB1.out)
  clear h0 h1 h2
  go_wp2_with fail
  refine (HC.out _ HT1.out HR1.out HTR1.out).mono ?_
  rintro e w2 ⟨rfl, hb2⟩
  have HB2 := Lib.hid (below_next HB1.out HB1.out.size hb2)
  clear hb2
  go_wp2_with fail
  refine (Q.test_opposite.calls n r _ h).mono ?_
  rintro e w3 ⟨rfl, ⟨n3, rfl⟩⟩
  go_wp2_with fail
  go_ret
  exact ⟨rfl, pw_below_drewN HB2.out n3⟩
set_option maxHeartbeats 4000000 in
set_option maxRecDepth 100000 in
theorem more_3p (a b x : ByteArray) (t : List S73) (r : Int) (hbin : Q.test_Binary.f b = some false) (ha : (a.toList == [33]) = false) (hp : (a.toList == [40]) = true) (hq : (x.toList == [41]) = true) (he : AskC 5 [b] t r) : AskC 41 [a, b, x] t r := by
  intro A c AT ct w hT hr hc ht hct
  obtain ⟨bk, o, rfl⟩ := word_addr hr (by simp)
  have h0 := cell_wordj hr 0 a rfl
  have h1 := cell_wordj hr 1 b rfl
  have h2 := cell_wordj hr 2 x rfl
  rw [Nat.add_zero] at h0
  have hlt := block_lt7 h0
  have HR := Lib.hid hr
  have HT := Lib.hid hT
  have HTR := Lib.hid ht
  have HBN := Lib.hid (Q.test_Binary.calls b false w hT hbin)
  have HC := Lib.hid (fun w hT hr ht => he _ (c - 1) AT ct w hT (C_inner (bk := bk) (o := o) (c := c) (hi := 2) (l := [a, b, x]) hr (by simp) (by simp) (by simp) hc) (by simp at hc; show 1 ≤ c - 1; omega) ht hct)
  have hcc := hc
  simp at hc
  have hc2 : 1 ≤ c := by omega
  have hc1 : ¬ (c = 1) := by omega
  clear hT hr ht he
  go_enter Tryz.func41, Tryz.ntmps41
  go_wp2_with fail
  refine HBN.out.mono ?_
  rintro e w1 ⟨rfl, hb1⟩
  have HB1 := Lib.hid hb1
  clear hb1
  have g0 := (HB1.out.cell (p := ⟨bk, o, none⟩) hlt).trans h0
  have g1 := (HB1.out.cell (p := ⟨bk, o + 1, none⟩) hlt).trans h1
  have g2 := (HB1.out.cell (p := ⟨bk, o + 2, none⟩) hlt).trans h2
  have HT1 := Lib.hid (HT.out.below HB1.out)
  have HR1 := Lib.hid (Kd.C_below HR.out HB1.out)
  have HTR1 := Lib.hid (Kd.C_below HTR.out HB1.out)
  clear h0 h1 h2
  go_wp2_with fail
  refine (HC.out _ HT1.out HR1.out HTR1.out).mono ?_
  rintro e w2 ⟨rfl, hb2⟩
  have HB2 := Lib.hid (below_next HB1.out HB1.out.size hb2)
  clear hb2
  go_wp2_with fail
  go_ret
  exact ⟨rfl, HB2.out⟩
set_option maxHeartbeats 4000000 in
set_option maxRecDepth 100000 in
theorem more_3u (a b x : ByteArray) (t : List S73) (r : Int) (hbin : Q.test_Binary.f b = some false) (ha : (a.toList == [33]) = false) (hp : (a.toList == [40]) = false) (hr2 : r = 2) : AskC 41 [a, b, x] t r := by
  subst hr2
  intro A c AT ct w hT hr hc ht hct
  obtain ⟨bk, o, rfl⟩ := word_addr hr (by simp)
  have h0 := cell_wordj hr 0 a rfl
  have h1 := cell_wordj hr 1 b rfl
  have h2 := cell_wordj hr 2 x rfl
  rw [Nat.add_zero] at h0
  have hlt := block_lt7 h0
  have HR := Lib.hid hr
  have HT := Lib.hid hT
  have HTR := Lib.hid ht
  have HBN := Lib.hid (Q.test_Binary.calls b false w hT hbin)
  have hcc := hc
  simp at hc
  have hc2 : 1 ≤ c := by omega
  have hc1 : ¬ (c = 1) := by omega
  clear hT hr ht
  go_enter Tryz.func41, Tryz.ntmps41
  go_wp2_with fail
  refine HBN.out.mono ?_
  rintro e w1 ⟨rfl, hb1⟩
  have HB1 := Lib.hid hb1
  clear hb1
  have g0 := (HB1.out.cell (p := ⟨bk, o, none⟩) hlt).trans h0
  have g1 := (HB1.out.cell (p := ⟨bk, o + 1, none⟩) hlt).trans h1
  have g2 := (HB1.out.cell (p := ⟨bk, o + 2, none⟩) hlt).trans h2
  have HT1 := Lib.hid (HT.out.below HB1.out)
  have HR1 := Lib.hid (Kd.C_below HR.out HB1.out)
  have HTR1 := Lib.hid (Kd.C_below HTR.out HB1.out)
  clear h0 h1 h2
  go_wp2_with fail
  go_ret
  exact ⟨rfl, HB1.out⟩
set_option maxHeartbeats 4000000 in
set_option maxRecDepth 100000 in
theorem more_3v (a b x : ByteArray) (t : List S73) (r : Int) (hbin : Q.test_Binary.f b = some false) (ha : (a.toList == [33]) = false) (hp : (a.toList == [40]) = true) (hq : (x.toList == [41]) = false) (hr2 : r = 2) : AskC 41 [a, b, x] t r := by
  subst hr2
  intro A c AT ct w hT hr hc ht hct
  obtain ⟨bk, o, rfl⟩ := word_addr hr (by simp)
  have h0 := cell_wordj hr 0 a rfl
  have h1 := cell_wordj hr 1 b rfl
  have h2 := cell_wordj hr 2 x rfl
  rw [Nat.add_zero] at h0
  have hlt := block_lt7 h0
  have HR := Lib.hid hr
  have HT := Lib.hid hT
  have HTR := Lib.hid ht
  have HBN := Lib.hid (Q.test_Binary.calls b false w hT hbin)
  have hcc := hc
  simp at hc
  have hc2 : 1 ≤ c := by omega
  have hc1 : ¬ (c = 1) := by omega
  clear hT hr ht
  go_enter Tryz.func41, Tryz.ntmps41
  go_wp2_with fail
  refine HBN.out.mono ?_
  rintro e w1 ⟨rfl, hb1⟩
  have HB1 := Lib.hid hb1
  clear hb1
  have g0 := (HB1.out.cell (p := ⟨bk, o, none⟩) hlt).trans h0
  have g1 := (HB1.out.cell (p := ⟨bk, o + 1, none⟩) hlt).trans h1
  have g2 := (HB1.out.cell (p := ⟨bk, o + 2, none⟩) hlt).trans h2
  have HT1 := Lib.hid (HT.out.below HB1.out)
  have HR1 := Lib.hid (Kd.C_below HR.out HB1.out)
  have HTR1 := Lib.hid (Kd.C_below HTR.out HB1.out)
  clear h0 h1 h2
  go_wp2_with fail
  go_ret
  exact ⟨rfl, HB1.out⟩
set_option maxHeartbeats 4000000 in
set_option maxRecDepth 100000 in
theorem more_4n (a b x y : ByteArray) (t : List S73) (r : Int) (n : Int) (ha : (a.toList == [33]) = true) (he : AskC 5 [b, x, y] t n) (h : Q.test_opposite.f n = some r) : AskC 41 [a, b, x, y] t r := by
  intro A c AT ct w hT hr hc ht hct
  obtain ⟨bk, o, rfl⟩ := word_addr hr (by simp)
  have h0 := cell_wordj hr 0 a rfl
  have h1 := cell_wordj hr 1 b rfl
  have h2 := cell_wordj hr 2 x rfl
  have h3 := cell_wordj hr 3 y rfl
  rw [Nat.add_zero] at h0
  have hlt := block_lt7 h0
  have HR := Lib.hid hr
  have HT := Lib.hid hT
  have HTR := Lib.hid ht
  have HC := Lib.hid (he _ (c - 1) AT ct w hT (C_tail hr (by simp) hc) (by simp at hc; show 3 ≤ c - 1; omega) ht hct)
  simp at hc
  have hc2 : 1 ≤ c := by omega
  have hc1 : ¬ (c = 1) := by omega
  clear hT hr he ht
  go_enter Tryz.func41, Tryz.ntmps41
  go_wp2_with fail
  refine HC.out.mono ?_
  rintro e w1 ⟨rfl, hb1⟩
  have HB1 := Lib.hid hb1
  clear hb1
  go_wp2_with fail
  refine (Q.test_opposite.calls n r _ h).mono ?_
  rintro e w2 ⟨rfl, ⟨n2, rfl⟩⟩
  go_wp2_with fail
  go_ret
  exact ⟨rfl, pw_below_drewN HB1.out n2⟩
set_option maxHeartbeats 4000000 in
set_option maxRecDepth 100000 in
theorem more_4p (a b x y : ByteArray) (t : List S73) (r : Int) (ha : (a.toList == [33]) = false) (hp : (a.toList == [40]) = true) (hq : (y.toList == [41]) = true) (he : AskC 5 [b, x] t r) : AskC 41 [a, b, x, y] t r := by
  intro A c AT ct w hT hr hc ht hct
  obtain ⟨bk, o, rfl⟩ := word_addr hr (by simp)
  have h0 := cell_wordj hr 0 a rfl
  have h1 := cell_wordj hr 1 b rfl
  have h2 := cell_wordj hr 2 x rfl
  have h3 := cell_wordj hr 3 y rfl
  rw [Nat.add_zero] at h0
  have hlt := block_lt7 h0
  have HR := Lib.hid hr
  have HT := Lib.hid hT
  have HTR := Lib.hid ht
  have HC := Lib.hid (he _ (c - 1) AT ct w hT (C_inner (c := c) (hi := 3) (l := [a, b, x, y]) hr (by simp) (by simp) (by simp) hc) (by simp at hc; show 2 ≤ c - 1; omega) ht hct)
  have hcc := hc
  simp at hc
  have hc2 : 1 ≤ c := by omega
  have hc1 : ¬ (c = 1) := by omega
  clear hT hr ht he
  go_enter Tryz.func41, Tryz.ntmps41
  go_wp2_with fail
  refine HC.out.mono ?_
  rintro e w1 ⟨rfl, hb1⟩
  have HB1 := Lib.hid hb1
  clear hb1
  go_wp2_with fail
  go_ret
  exact ⟨rfl, HB1.out⟩
set_option maxHeartbeats 4000000 in
set_option maxRecDepth 100000 in
theorem more_4u (a b x y : ByteArray) (t : List S73) (r : Int) (ha : (a.toList == [33]) = false) (hp : (a.toList == [40]) = false) (hr2 : r = 2) : AskC 41 [a, b, x, y] t r := by
  subst hr2
  intro A c AT ct w hT hr hc ht hct
  obtain ⟨bk, o, rfl⟩ := word_addr hr (by simp)
  have h0 := cell_wordj hr 0 a rfl
  have h1 := cell_wordj hr 1 b rfl
  have h2 := cell_wordj hr 2 x rfl
  have h3 := cell_wordj hr 3 y rfl
  rw [Nat.add_zero] at h0
  have hlt := block_lt7 h0
  have HR := Lib.hid hr
  have HT := Lib.hid hT
  have HTR := Lib.hid ht
  have hcc := hc
  simp at hc
  have hc2 : 1 ≤ c := by omega
  have hc1 : ¬ (c = 1) := by omega
  clear hT hr ht
  go_enter Tryz.func41, Tryz.ntmps41
  go_wp2_with fail
  go_ret
  exact ⟨rfl, Below.refl _ _⟩
set_option maxHeartbeats 4000000 in
set_option maxRecDepth 100000 in
theorem more_4v (a b x y : ByteArray) (t : List S73) (r : Int) (ha : (a.toList == [33]) = false) (hp : (a.toList == [40]) = true) (hq : (y.toList == [41]) = false) (hr2 : r = 2) : AskC 41 [a, b, x, y] t r := by
  subst hr2
  intro A c AT ct w hT hr hc ht hct
  obtain ⟨bk, o, rfl⟩ := word_addr hr (by simp)
  have h0 := cell_wordj hr 0 a rfl
  have h1 := cell_wordj hr 1 b rfl
  have h2 := cell_wordj hr 2 x rfl
  have h3 := cell_wordj hr 3 y rfl
  rw [Nat.add_zero] at h0
  have hlt := block_lt7 h0
  have HR := Lib.hid hr
  have HT := Lib.hid hT
  have HTR := Lib.hid ht
  have hcc := hc
  simp at hc
  have hc2 : 1 ≤ c := by omega
  have hc1 : ¬ (c = 1) := by omega
  clear hT hr ht
  go_enter Tryz.func41, Tryz.ntmps41
  go_wp2_with fail
  go_ret
  exact ⟨rfl, Below.refl _ _⟩
set_option maxHeartbeats 4000000 in
set_option maxRecDepth 100000 in
theorem eval_5 (l : List ByteArray) (t : List S73) (h5 : 5 ≤ l.length) : AskC 5 l t 2 := by
  intro A c AT ct w hT hr hc ht hct
  have e0 : ((l.length : Nat) : Int) ≠ 0 := by omega
  have e1 : ((l.length : Nat) : Int) ≠ 1 := by omega
  have e2 : ((l.length : Nat) : Int) ≠ 2 := by omega
  have e3 : ((l.length : Nat) : Int) ≠ 3 := by omega
  have e4 : ((l.length : Nat) : Int) ≠ 4 := by omega
  have n0 : l.length ≠ 0 := by omega
  have n1 : l.length ≠ 1 := by omega
  have n2 : l.length ≠ 2 := by omega
  have n3 : l.length ≠ 3 := by omega
  have n4 : l.length ≠ 4 := by omega
  have nn : l ≠ [] := by
    rintro rfl
    simp at h5
  clear hT hr ht
  go_enter Tryz.func5, Tryz.ntmps5
  go_wp2_with fail
  go_ret
  exact ⟨rfl, Below.refl _ _⟩
/-- What words ask. -/
def evalF : Nat → List ByteArray → List S73 → Option Int
  | 0, _, _ => none
  | _ + 1, [], _ => some 1
  | _ + 1, [a], _ => Q.test_status.f (!a.toList.isEmpty)
  | k + 1, [a, b], t => if (a.toList == [33]) = true then (evalF k [b] t).bind Q.test_opposite.f else Q.test_Single.f a b t
  | k + 1, [a, b, x], t => (Q.test_Binary.f b).bind fun bb => if bb = true then Q.test_Both.f 1 a b x else if (a.toList == [33]) = true then (evalF k [b, x] t).bind Q.test_opposite.f else if (a.toList == [40]) = true then (if (x.toList == [41]) = true then evalF k [b] t else some 2) else some 2
  | k + 1, [a, b, x, y], t => if (a.toList == [33]) = true then (evalF k [b, x, y] t).bind Q.test_opposite.f else if (a.toList == [40]) = true then (if (y.toList == [41]) = true then evalF k [b, x] t else some 2) else some 2
  | _ + 1, _, _ => some 2
theorem evalF_ask (t : List S73) : ∀ (k : Nat) (l : List ByteArray) (r : Int), evalF k l t = some r → AskC 5 l t r
  | 0, _, _, h => by simp [evalF] at h
  | _ + 1, [], r, h => by
    simp only [evalF] at h
    obtain rfl := Option.some.inj h
    exact eval_0 t
  | _ + 1, [a], r, h => by
    simp only [evalF] at h
    exact eval_1 a t r h
  | k + 1, [a, b], r, h => by
    simp only [evalF] at h
    split at h
    · rename_i ha
      obtain ⟨n, hn, ho⟩ := Option.bind_eq_some_iff.1 h
      exact eval_2n a b t r n ha (evalF_ask t k [b] n hn) ho
    · rename_i ha
      exact eval_2s a b t r (by simpa using ha) h
  | k + 1, [a, b, x], r, h => by
    simp only [evalF] at h
    obtain ⟨bb, hb, h⟩ := Option.bind_eq_some_iff.1 h
    refine eval_3 a b x t r ?_
    cases bb
    · rw [if_neg (by simp)] at h
      split at h
      · rename_i ha
        obtain ⟨n, hn, ho⟩ := Option.bind_eq_some_iff.1 h
        exact more_3n a b x t r n hb ha (evalF_ask t k [b, x] n hn) ho
      · rename_i ha
        have ha' : (a.toList == [33]) = false := by simpa using ha
        split at h
        · rename_i hp
          split at h
          · rename_i hq
            exact more_3p a b x t r hb ha' hp hq (evalF_ask t k [b] r h)
          · rename_i hq
            exact more_3v a b x t r hb ha' hp (by simpa using hq) (Option.some.inj h).symm
        · rename_i hp
          exact more_3u a b x t r hb ha' (by simpa using hp) (Option.some.inj h).symm
    · rw [if_pos rfl] at h
      exact more_3b a b x t r hb h
  | k + 1, [a, b, x, y], r, h => by
    simp only [evalF] at h
    refine eval_4 a b x y t r ?_
    split at h
    · rename_i ha
      obtain ⟨n, hn, ho⟩ := Option.bind_eq_some_iff.1 h
      exact more_4n a b x y t r n ha (evalF_ask t k [b, x, y] n hn) ho
    · rename_i ha
      have ha' : (a.toList == [33]) = false := by simpa using ha
      split at h
      · rename_i hp
        split at h
        · rename_i hq
          exact more_4p a b x y t r ha' hp hq (evalF_ask t k [b, x] r h)
        · rename_i hq
          exact more_4v a b x y t r ha' hp (by simpa using hq) (Option.some.inj h).symm
      · rename_i hp
        exact more_4u a b x y t r ha' (by simpa using hp) (Option.some.inj h).symm
  | k + 1, _ :: _ :: _ :: _ :: _ :: _, r, h => by
    simp only [evalF] at h
    obtain rfl := Option.some.inj h
    exact eval_5 _ t (by simp)
def test_Eval.f (l : List ByteArray) (t : List S73) : Option Int := evalF 5 l t
theorem test_Eval.calls (A0 : Option Addr) (c0 : Nat) (l0 : List ByteArray) (A1 : Option Addr) (c1 : Nat) (l1 : List S73) (r : Int) (w : World) (hT : Tab w) (hr0 : Kd.C Kd.string w A0 l0.length l0) (hc0 : l0.length ≤ c0) (hr1 : Kd.C k73 w A1 l1.length l1) (hc1 : l1.length ≤ c1) (h : test_Eval.f l0 l1 = some r) :
    Calls Tryz.prog 5 #[.slice A0 l0.length c0, .slice A1 l1.length c1] w fun e w' => e = .returned (.int .i64 r) ∧ Below w.heap.size w w' :=
  evalF_ask l1 5 l0 r h A0 c0 A1 c1 w hT hr0 hc0 hr1 hc1
end Go.Proofs.YtdfddiehiiaepaaGreatDoor.Ext

/- Proved: cowrielaw17.BraceSpans' call is true at any two numbers. Condition: MaxLen holds a number. -/
import Derived.Test.YtciflnnagkdjiaaDoorVsBrSpansPure
import Derived.Deep.RegionHeld3
set_option linter.unusedVariables false
set_option linter.unusedSimpArgs false
namespace Go.Proofs.YtciflnnagkdjiaaDoor.Ext
open Go.RowKit Go.Proofs.YtciflnnagkdjiaaDoorW.PrintWords
theorem cell_lt {w : World} {a : Addr} {v : Value} (h : w.cell? a = some v) : a.block < w.heap.size := by
  apply Nat.lt_of_not_le
  intro hn
  have e : w.heap[a.block]? = none := Array.getElem?_eq_none hn
  simp [World.cell?, e] at h
theorem held_next {wr w1 w2 : World} {a b : Addr} {v u : Value} (hb : Below w1.heap.size w1 w2) (h : Below wr.heap.size wr w1 ∧ w1.cell? a = some v ∧ w1.cell? b = some u) (ha : a.block < wr.heap.size) (hc : b.block < wr.heap.size) : Below wr.heap.size wr w2 ∧ w2.cell? a = some v ∧ w2.cell? b = some u :=
  ⟨below_step h.1 hb, (hb.cell (p := a) (Nat.lt_of_lt_of_le ha h.1.size)).trans h.2.1, (hb.cell (p := b) (Nat.lt_of_lt_of_le hc h.1.size)).trans h.2.2⟩
theorem i64_sm {n : Int} (h : -9223372036854775808 ≤ n ∧ n ≤ 9223372036854775807) : IntKind.i64.wrap n = n := by rw [IntKind.wrap_i64]; omega
theorem held_first {wr : World} {a b : Addr} {v u : Value} (h1 : wr.cell? a = some v) (h2 : wr.cell? b = some u) : Below wr.heap.size wr wr.drew ∧ wr.drew.cell? a = some v ∧ wr.drew.cell? b = some u := ⟨below_drew (Below.refl _ _), h1, h2⟩
theorem hundred (x : Int) : ∃ n : Nat, n < 100 ∧ Int.tmod (wrap64 (Int.tmod x 100 + 100)) 100 = (n : Int) := by
  have h1 := Int.tmod_lt_of_pos x (show (0 : Int) < 100 by decide)
  have h2 := Int.lt_tmod_of_pos x (show (0 : Int) < 100 by decide)
  have hw : wrap64 (Int.tmod x 100 + 100) = Int.tmod x 100 + 100 := by
    exact wrap64_small (by omega)
  rw [hw]
  have h3 := Int.tmod_lt_of_pos (Int.tmod x 100 + 100) (show (0 : Int) < 100 by decide)
  have h4 := Int.tmod_nonneg (a := Int.tmod x 100 + 100) 100 (by omega)
  exact ⟨(Int.tmod (Int.tmod x 100 + 100) 100).toNat, by omega, by omega⟩
def cowrielaw17_BraceSpans.f (a0 a1 : Int) : Option Bool := some true
theorem text_at {n : Nat} (h : n < 100) (w : World) : Calls Tryd.prog 14 #[.int .i64 (n : Int)] w fun e w' => e = .returned (.string ⟨(d2 n).toArray⟩) ∧ Below w.heap.size w w' :=
  P.cowrielaw17_text.calls 2 _ _ w (text_two h)
theorem d2_size {n : Nat} (h : n < 100) : (⟨(d2 n).toArray⟩ : ByteArray).size ≤ 2 := by
  rw [ba_size]
  exact (d2_all ⟨n, h⟩).2.2.1
theorem spanIn_eq (a b : Nat) : (⟨#[123]⟩ : ByteArray) ++ ⟨(d2 a).toArray⟩ ++ ⟨#[46, 46]⟩ ++ ⟨(d2 b).toArray⟩ ++ ⟨#[125]⟩ = spanIn a b := by
  apply ByteArray.ext
  simp [spanIn, spanText]
theorem span_len {a b : Nat} (ha : a < 100) (hb : b < 100) : (itemsP [textP (spanIn a b) false]).length ≤ 1000000000 := by
  have h1 := (d2_all ⟨a, ha⟩).2.2.1
  have h2 := (d2_all ⟨b, hb⟩).2.2.1
  dsimp only at h1 h2
  have hi : itemsP [textP (spanIn a b) false] = (123 :: (spanText a b ++ [125])).map ItemS.oct := items_text (123 :: (spanText a b ++ [125]))
  rw [hi, List.length_map]
  unfold spanText
  simp only [List.length_append, List.length_cons, List.length_nil]
  omega
set_option maxHeartbeats 8000000 in
set_option maxRecDepth 100000 in
theorem cowrielaw17_BraceSpans.calls (a0 a1 : Int) (r : Bool) (w : World) (hT : MX w) (h : cowrielaw17_BraceSpans.f a0 a1 = some r) :
    Calls Tryd.prog 5 #[.int .i64 a0, .int .i64 a1] w fun e w' => e = .returned (.bool r) ∧ Below w.heap.size w w' := by
  obtain rfl := Option.some.inj h
  clear h
  obtain ⟨a, ha, e0⟩ := hundred a0
  obtain ⟨b, hb, e1⟩ := hundred a1
  have hsa := d2_size ha
  have hsb := d2_size hb
  have hsp := spanIn_eq a b
  obtain ⟨ta, hta⟩ : ∃ t : ByteArray, t = ⟨(d2 a).toArray⟩ := ⟨_, rfl⟩
  obtain ⟨tb, htb⟩ : ∃ t : ByteArray, t = ⟨(d2 b).toArray⟩ := ⟨_, rfl⟩
  rw [← hta] at hsa
  rw [← htb] at hsb
  rw [← hta, ← htb] at hsp
  have HA := Lib.hid (alive_calls w hT)
  have HTA := Lib.hid (fun W => text_at ha W)
  have HTB := Lib.hid (fun W => text_at hb W)
  have HTX := Lib.hid (fun (n : Nat) (h : n < 100) W => text_at h W)
  rw [← hta] at HTA
  rw [← htb] at HTB
  have HSP := Lib.hid hsp
  clear hta htb hsp
  have HEX := Lib.hid (fun A c w w' hm hc => brexpand_calls 2 A c [textP (spanIn a b) false] w w' hm hc)
  have HW := Lib.hid (span_words ha hb)
  have HL := Lib.hid (span_len ha hb)
  have HN := Lib.hid num_calls
  have HMX := Lib.hid hT
  clear hT
  go_enter Tryd.func5, Tryd.ntmps5
  go_wp2_with fail
  refine HA.out.mono ?_
  rintro e w1 ⟨rfl, hb1⟩
  have HB1 := Lib.hid hb1
  clear hb1
  go_wp2_with fail
  refine (HTA.out _).mono ?_
  rintro e w2 ⟨rfl, hb2⟩
  have HB2 := Lib.hid (below_step HB1.out hb2)
  clear hb2
  go_wp2_with fail
  refine (HTB.out _).mono ?_
  rintro e w3 ⟨rfl, hb3⟩
  have HB3 := Lib.hid (below_step HB2.out hb3)
  clear hb3
  go_wp2_with fail
  rw [HSP.out]
  refine (HEX.out _ _ _ _ (HMX.out.below (HB3.out.alloc HB3.out.size _)) (C_lit w3 (textP (spanIn a b) false)) (Nat.le_refl _) HL.out HW.out).mono ?_
  rintro e w4 ⟨⟨v, rfl, hR⟩, hb4⟩
  obtain ⟨A1, c1, hv, hc1, hC1⟩ := Kd.R_reads hR
  rw [spanWords_len] at hv hC1 hc1
  subst hv
  have HB4 := Lib.hid (below_step (HB3.out.alloc HB3.out.size _) hb4)
  have HC4 := Lib.hid hC1
  have HAT := Lib.hid (fun j => @spanWords_at a b j)
  have HLT := Lib.hid (fun i (hi : i < steps a b + 1) => at2_lt (i := i) ha hb (Nat.le_of_lt_succ hi))
  have key : (decide (b < a) = true ∧ ((a : Int) - b + 1) = ((steps a b + 1 : Nat) : Int) ∧ ∀ i : Nat, i < steps a b + 1 → (a : Int) - i = (at2 a b i : Nat)) ∨ (decide (b < a) = false ∧ ((b : Int) - a + 1) = ((steps a b + 1 : Nat) : Int) ∧ ∀ i : Nat, i < steps a b + 1 → (a : Int) + i = (at2 a b i : Nat)) := by
    clear HB1 HB2 HB3 HB4
    unfold steps at2
    by_cases c : b < a
    · refine .inl ⟨decide_eq_true (by omega), ?_, fun i hi => ?_⟩
      · rw [if_pos c]; omega
      · rw [if_pos c] at hi ⊢; omega
    · refine .inr ⟨decide_eq_false (by omega), ?_, fun i hi => ?_⟩
      · rw [if_neg c]; omega
      · rw [if_neg c] at hi ⊢; omega
  have hm9 : steps a b + 1 ≤ 100 := steps_lt ha hb
  generalize spanWords a b = L at *
  generalize steps a b + 1 = m at *
  clear hR hb4 hC1 HSP HEX HTA HTB HW HL HB3 HB2 HB1 HA hsa hsb e0 e1
  rcases key with ⟨hc, hm, hx⟩ | ⟨hc, hm, hx⟩
  all_goals have HX := Lib.hid hx
  all_goals clear hx
  all_goals (
    go_wp2_with fail
    refine (HN.out _ _).mono ?_
    rintro e w5 ⟨rfl, hb5⟩
    have HB5 := Lib.hid (below_step HB4.out hb5)
    have HC5 := Lib.hid (Kd.C_below HC4.out hb5)
    clear hb5
    go_wp2_with fail
    go_loopw [9] (fun iv wr => ∃ i : Nat, iv = .int .i64 (i : Int) ∧ i ≤ m ∧ Below w.heap.size w wr ∧ Kd.C kW wr A1 m L) (fun iv _ => m - (intOf iv).toNat)
    case atStart => exact ⟨0, rfl, Nat.zero_le _, HB5.out, HC5.out⟩
    case round =>
      obtain ⟨i, rfl, hi, hbr, hCr⟩ := hrel
      have HBr := Lib.hid hbr
      have HCr := Lib.hid hCr
      clear hbr hCr HC5 HC4 HB5 HB4
      by_cases hlt : i < m
      · have hx := HX.out i hlt
        have hl := HLT.out i hlt
        have ht := HAT.out i hlt
        generalize at2 a b i = x at *
        have HTXX := Lib.hid (fun W => HTX.out x hl W)
        have hw0 : IntKind.i64.wrap (-(i : Int)) = -(i : Int) := i64_sm (n := -(i : Int)) (by omega)
        have hw1 : IntKind.i64.wrap (i : Int) = (i : Int) := i64_sm (n := (i : Int)) (by omega)
        have hw3 : IntKind.i64.wrap (x : Int) = (x : Int) := i64_sm (n := (x : Int)) (by omega)
        first
          | have hq : IntKind.i64.wrap ((a : Int) + -(i : Int)) = (x : Int) := (i64_sm (n := (a : Int) + -(i : Int)) (by omega)).trans (by omega)
          | have hq : IntKind.i64.wrap ((a : Int) + (i : Int)) = (x : Int) := (i64_sm (n := (a : Int) + (i : Int)) (by omega)).trans (by omega)
        obtain ⟨ad, A', c', hA1, y0, hc', hCp⟩ := at_W HCr.out ht
        subst hA1
        obtain ⟨ap, hAp, x0, x1, x2, x3, x4, x5, x6, x7, x8, x9⟩ := at_P hCp (k := 0) rfl
        subst hAp
        rw [show (0 : Nat) * 10 = 0 from rfl, show ap.add 0 = ap by simp [Addr.add]] at x0 x1 x2 x3 x4 x5 x6 x7 x8 x9
        have mixed : Tryd.prog.follows Departure.mixedOrders = true := by kernel_rfl
        clear hCp ht hl
        go_wp2_with fail
        rw [List.length_singleton] at y0
        replace x1 : wr.cell? ⟨ap.block, ap.off + 1, none⟩ = some (.string ⟨(d2 x).toArray⟩) := x1
        have k1 := cell_lt y0
        have k2 := cell_lt x1
        clear x0 x2 x3 x4 x5 x6 x7 x8 x9
        go_region_held3 (fun w' => Below wr.heap.size wr w' ∧ w'.cell? (ad.add i) = some (.slice (some ap) 1 c') ∧ w'.cell? ⟨ap.block, ap.off + 1, none⟩ = some (.string ⟨(d2 x).toArray⟩)) (first | (with_reducible exact held_first y0 x1) | (exact held_next (w1 := wr.drew) hb6 (held_first y0 x1) k1 k2)) (first | (go_simp; simp only [hw0, hw1, hw3, hq]; go_at_call 14; (with_reducible refine (HTXX.out _).mono ?_); rintro e w6 ⟨rfl, hb6⟩; dsimp only) | (go_simp; go_at_call 14; (with_reducible refine (HTXX.out _).mono ?_); rintro e w6 ⟨rfl, hb6⟩; dsimp only))
        all_goals (
          have hb7 : Below wr.heap.size wr w6 := (below_drew (Below.refl _ wr)).trans hb6
          have HB7 := Lib.hid (below_step HBr.out hb7)
          have HC7 := Lib.hid (Kd.C_below HCr.out hb7)
          clear hb6 hb7
          go_wp2_with fail
          go_roundw
          (case rel => exact ⟨i + 1, by go_num, by omega, HB7.out, HC7.out⟩)
          (case measure => simp [intOf]; omega))
      · have hie : i = m := by omega
        subst hie
        clear hlt
        go_wp2_with fail
        go_ret
        exact ⟨rfl, HBr.out⟩)
end Go.Proofs.YtciflnnagkdjiaaDoor.Ext
namespace Go.Proofs.YtciflnnagkdjiaaDoor.P
end Go.Proofs.YtciflnnagkdjiaaDoor.P

/- Proved: arith's parser: sign's call. -/
import Derived.Test.YtlbgnpllbogkeaaDoorVmArWord
import Derived.Deep.QuietTactic
import Derived.BigQuiet
set_option linter.unusedVariables false
set_option linter.unusedSimpArgs false
namespace Go.Proofs.YtlbgnpllbogkeaaDoor.Ext
open Go.RowKit Go.Proofs.YtlbgnpllbogkeaaDoorW.PrintWords
def signsT : ByteArray := ⟨([60, 60, 61, 32, 62, 62, 61, 32, 42, 42, 32, 43, 43, 32, 45, 45, 32, 60, 60, 32, 62, 62, 32, 60, 61, 32, 62, 61, 32, 61, 61, 32, 33, 61, 32, 38, 38, 32, 124, 124, 32, 42, 61, 32, 47, 61, 32, 37, 61, 32].append [43, 61, 32, 45, 61, 32, 38, 61, 32, 94, 61, 32, 124, 61, 32, 42, 32, 47, 32, 37, 32, 43, 32, 45, 32, 60, 32, 62, 32, 61, 32, 33, 32, 126, 32, 38, 32, 94, 32, 124, 32, 63, 32, 58, 32, 44, 32, 40, 32, 41]).toArray⟩
set_option maxRecDepth 100000 in
theorem set_signs : SetOf signsT signsL := ⟨by decide, by decide, by decide, by decide, by decide⟩
theorem set_bashes : SetOf ⟨#[42, 42, 32, 43, 43, 32, 45, 45]⟩ bashesL := ⟨by decide, by decide, by decide, by decide, by decide⟩
/-- strings.Fields of a text of words. -/
theorem fields_calls {set : ByteArray} {l : List ByteArray} (hs : SetOf set l) (w : World) (hT : Tab w) : Calls Tryd.prog 40 #[.string set] w fun e w' => e = .returned (.slice (some ⟨w.heap.size, 0, none⟩) l.length l.length) ∧ w' = w.alloc (.cells (l.map Value.string).toArray 9) := by
  obtain ⟨h1, h2, h3, h4, h5⟩ := hs
  have hF := Tryd.strings_Fields_laid set w (by omega) (fun j c hj => by simpa using List.all_eq_true.1 h4 c (List.mem_of_getElem? hj)) hT
  have hlen : (Lib.fields set.data.toList).length = l.length := by rw [← h5, List.length_map]
  have hcells : ((Lib.fields set.data.toList).map fun l => Value.string ⟨l.toArray⟩).toArray = (l.map Value.string).toArray := by
    rw [← h5, List.map_map]
    rfl
  rw [hlen, hcells] at hF
  exact hF
/-- What sign's loop knows. -/
structure SgAt (w : World) (pb : Nat) (s : ByteArray) (bash : Bool) (t : Tok) (d a F : Nat) (wr : World) : Prop where
  p : PB wr pb s bash t d
  b : Below w.heap.size w wr
  bt : Bk wr w.heap.size 44 #[.int .i64 4, .string em, .int .i64 a, .int .i64 (a + 1 : Nat)]
  br : Bk wr (w.heap.size + 1) 44 #[.int .i64 0, .string ⟨#[]⟩, .int .i64 0, .int .i64 0]
  bf : Bk wr F 9 (signsL.map Value.string).toArray
theorem SgAt.bel {w wr w1 : World} {pb : Nat} {s : ByteArray} {bash : Bool} {t : Tok} {d a F : Nat} (h : SgAt w pb s bash t d a F wr) (hb : Below wr.heap.size wr w1) : SgAt w pb s bash t d a F w1 :=
  ⟨h.p.bel hb, below_step h.b hb, h.bt.bel hb, h.br.bel hb, h.bf.bel hb⟩
theorem Bk.all4 {w : World} {b ty : Nat} {c0 c1 c2 c3 : Value} (h : Bk w b ty #[c0, c1, c2, c3]) : w.cell? ⟨b, 0, none⟩ = some c0 ∧ w.cell? ⟨b, 1, none⟩ = some c1 ∧ w.cell? ⟨b, 2, none⟩ = some c2 ∧ w.cell? ⟨b, 3, none⟩ = some c3 ∧ w.frozen? ⟨b, 0, none⟩ = false ∧ w.frozen? ⟨b, 1, none⟩ = false ∧ w.frozen? ⟨b, 2, none⟩ = false ∧ w.frozen? ⟨b, 3, none⟩ = false :=
  ⟨h.c 0, h.c 1, h.c 2, h.c 3, h.f 0, h.f 1, h.f 2, h.f 3⟩
theorem Bk.set4 {w : World} {b ty : Nat} {c0 c1 c2 c3 : Value} (h : Bk w b ty #[c0, c1, c2, c3]) (u0 u1 u2 u3 : Value) : Bk ((((w.setCell ⟨b, 0, none⟩ u0).setCell ⟨b, 1, none⟩ u1).setCell ⟨b, 2, none⟩ u2).setCell ⟨b, 3, none⟩ u3) b ty #[u0, u1, u2, u3] :=
  heap_setCell_same _ _ 3 _ _ _ (heap_setCell_same _ _ 2 _ _ _ (heap_setCell_same _ _ 1 _ _ _ (heap_setCell_same _ _ 0 _ _ _ h)))
set_option maxHeartbeats 8000000 in
theorem sign_calls {pb : Nat} {s : ByteArray} {bash : Bool} {t : Tok} {d : Nat} (a to0 : Nat) (w : World) (h : PB w pb s bash t d) (ha : a < s.size) :
    Calls Tryd.prog 51 #[parserV pb, .agg #[.int .i64 0, .string em, .int .i64 a, .int .i64 to0]] w fun e w' => e = .returned (.agg #[.int .i64 (signGo s bash a signsL).kind, .string (signGo s bash a signsL).text, .int .i64 (signGo s bash a signsL).pos, .int .i64 (signGo s bash a signsL).to_]) ∧ Below w.heap.size w w' := by
  have hsz := h.sz
  have hw1 : wrap64 ((a : Int) + 1) = ((a + 1 : Nat) : Int) := by unfold wrap64; omega
  obtain ⟨a1, ha1⟩ : ∃ a1, a + 1 = a1 := ⟨_, rfl⟩
  rw [ha1] at hw1
  obtain ⟨r, hr⟩ : ∃ r, signGo s bash a signsL = r := ⟨_, rfl⟩
  rw [hr]
  have HR := Lib.hid hr
  have HP := Lib.hid h
  have HA := Lib.hid ha
  have HA1 := Lib.hid ha1
  have HSZ := Lib.hid hsz
  have HFC := Lib.hid (fun W hT => fields_calls set_signs W hT)
  clear h ha hr ha1 hsz
  go_enter Tryd.func51, Tryd.ntmps51
  go_wp2_with fail
  have hst : SgAt w pb s bash t d a (w.heap.size + 1 + 1) (((w.alloc (.cells #[.int .i64 4, .string em, .int .i64 a, .int .i64 a1] 44)).alloc (.cells #[.int .i64 0, .string ⟨#[]⟩, .int .i64 0, .int .i64 0] 44)).alloc (.cells (signsL.map Value.string).toArray 9)) := by
    have h1 := (Below.refl _ w).alloc (Nat.le_refl _) (.cells #[.int .i64 4, .string em, .int .i64 a, .int .i64 a1] 44)
    have b1 := Bk.new w 44 #[.int .i64 4, .string em, .int .i64 a, .int .i64 a1]
    have e1 : (w.alloc (.cells #[.int .i64 4, .string em, .int .i64 a, .int .i64 a1] 44)).heap.size = w.heap.size + 1 := by simp
    generalize w.alloc (.cells #[.int .i64 4, .string em, .int .i64 a, .int .i64 a1] 44) = w1 at *
    have h2 := (Below.refl _ w1).alloc (Nat.le_refl _) (.cells #[.int .i64 0, .string ⟨#[]⟩, .int .i64 0, .int .i64 0] 44)
    have b2 := Bk.new w1 44 #[.int .i64 0, .string ⟨#[]⟩, .int .i64 0, .int .i64 0]
    have e2 : (w1.alloc (.cells #[.int .i64 0, .string ⟨#[]⟩, .int .i64 0, .int .i64 0] 44)).heap.size = w1.heap.size + 1 := by simp
    generalize w1.alloc (.cells #[.int .i64 0, .string ⟨#[]⟩, .int .i64 0, .int .i64 0] 44) = w2 at *
    have h3 := (Below.refl _ w2).alloc (Nat.le_refl _) (.cells (signsL.map Value.string).toArray 9)
    have b3 := Bk.new w2 9 (signsL.map Value.string).toArray
    rw [e1] at b2 e2
    rw [e2] at b3
    rw [← HA1.out] at b1
    exact ⟨((HP.out.bel h1).bel h2).bel h3, below_step (below_step h1 h2) h3, (b1.bel h2).bel h3, b2.bel h3, b3⟩
  have HST := Lib.hid hst
  have hT : Tab ((w.alloc (.cells #[.int .i64 4, .string em, .int .i64 a, .int .i64 a1] 44)).alloc (.cells #[.int .i64 0, .string ⟨#[]⟩, .int .i64 0, .int .i64 0] 44)) :=
    (HP.out.tab.below ((Below.refl _ w).alloc (Nat.le_refl _) _)).below ((Below.refl _ _).alloc (Nat.le_refl _) _)
  refine (HFC.out _ hT).mono ?_
  rintro e w3 ⟨rfl, rfl⟩
  have hlen : signsL.length = 39 := by decide
  rw [hlen]
  rw [show ((w.alloc (.cells #[.int .i64 4, .string em, .int .i64 a, .int .i64 a1] 44)).alloc (.cells #[.int .i64 0, .string ⟨#[]⟩, .int .i64 0, .int .i64 0] 44)).heap.size = w.heap.size + 1 + 1 by simp]
  generalize (((w.alloc (.cells #[.int .i64 4, .string em, .int .i64 a, .int .i64 a1] 44)).alloc (.cells #[.int .i64 0, .string ⟨#[]⟩, .int .i64 0, .int .i64 0] 44)).alloc (.cells (signsL.map Value.string).toArray 9)) = w4 at HST ⊢
  have HLEN := Lib.hid hlen
  clear hst hT hlen HFC
  go_wp2_with fail
  go_loopw [14] (fun n wr => ∃ (j : Nat), n = .int .i64 j ∧ j ≤ 39 ∧ signGo s bash a (signsL.drop j) = r ∧ SgAt w pb s bash t d a (w.heap.size + 1 + 1) wr) (fun n _ => 39 - (intOf n).toNat)
  case atStart => exact ⟨0, rfl, by decide, HR.out, HST.out⟩
  case round =>
    clear HST HR
    obtain ⟨j, rfl, hj, hgo, hS⟩ := hrel
    have HS := Lib.hid hS
    have HGO := Lib.hid hgo
    clear hS hgo
    by_cases hlt : j < 39
    · have hjl : j < signsL.length := by rw [HLEN.out]; exact hlt
      have hgo := HGO.out
      have y0 := HS.out.bf.c j
      rw [List.getElem?_toArray, List.getElem?_map, List.getElem?_eq_getElem hjl, Option.map_some] at y0
      rw [List.drop_eq_getElem_cons hjl, signGo] at hgo
      have hsm := signs_fine _ (List.getElem_mem hjl)
      generalize signsL[j]'hjl = g at *
      unfold signOk at hgo
      obtain ⟨n2, hn2⟩ : ∃ n2, a + g.size = n2 := ⟨_, rfl⟩
      have hw2 : wrap64 ((a : Int) + (g.size : Int)) = (n2 : Int) := by have h1 := HSZ.out; have h2 := HA.out; have h3 := hsm.2; unfold wrap64; omega
      rw [hn2] at hgo
      have HN2 := Lib.hid hn2
      clear hn2
      have HGO2 := Lib.hid hgo
      have HY := Lib.hid y0
      have hp0 := HS.out.p.c0
      have hp1 := HS.out.p.c1
      have ht2 := HS.out.bt.c 2
      have haS := HA.out
      have hb0 : (0 : Int) ≤ (a : Int) := by omega
      have hb1 : (a : Int) ≤ (s.size : Int) := by omega
      have mixed : Tryd.prog.follows Departure.mixedOrders = true := by kernel_rfl
      have HHP := Lib.hid (fun W => Tryd.strings_HasPrefix (s.extract a s.size) g W)
      clear hgo HGO
      have hpref : ∃ b, Lib.hasPrefix (s.extract a s.size).data.toList g.data.toList = b := ⟨_, rfl⟩
      obtain ⟨hb, hpe⟩ := hpref
      rw [hpe] at HGO2 HHP
      cases hb with
      | false =>
        have HGO3 := Lib.hid (show signGo s bash a (signsL.drop (j + 1)) = r from by have h := HGO2.out; rw [Bool.false_and, if_neg (by decide)] at h; exact h)
        clear hpe HGO2
        go_wp2_with fail
        go_quiet ((go_at_call 43; refine Calls.quiet_of_same (HHP.out _)))
        have HS2 := Lib.hid (HS.out.bel (pw_below_drewN (Below.refl _ wr) nq))
        clear hp0 hp1 ht2 haS hb0 hb1 y0
        go_wp2_with fail
        go_roundw
        case rel => exact ⟨j + 1, by go_num, by omega, HGO3.out, HS2.out⟩
        case measure => simp [intOf]; omega
      | true =>
        rw [Bool.true_and] at HGO2
        cases bash with
        | true =>
          have HGO3 := Lib.hid (show (⟨3, g, a, n2⟩ : Tok) = r from by have h := HGO2.out; rw [Bool.true_or, if_pos rfl] at h; exact h)
          clear hpe HGO2
          go_wp2_with fail
          go_quiet ((go_at_call 43; refine Calls.quiet_of_same (HHP.out _)))
          have HS2 := Lib.hid (HS.out.bel (pw_below_drewN (Below.refl _ wr) nq))
          obtain ⟨q0, q1, q2, q3, q4, q5, q6, q7⟩ := HS2.out.bt.all4
          obtain ⟨z0, z1, z2, z3, z4, z5, z6, z7⟩ := HS2.out.br.all4
          clear hp0 hp1 ht2 haS hb0 hb1 y0
          go_wp2_with fail
          refine bodyPost_ret (results_cell_row rfl _ _ (w.heap.size + 1) 44 #[.int .i64 3, .string g, .int .i64 a, .int .i64 n2] (0, 0) _ rfl (HS2.out.br.set4 _ _ _ _) Tryd.underlying44 rfl (by kernel_rfl)) rfl ?_
          rw [← HGO3.out]
          exact ⟨rfl, (below_box4 HS2.out.b (Nat.le_succ _) _ _ _ _)⟩
        | false =>
          rw [Bool.false_or] at HGO2
          have hin : ∃ b, inL bashesL g = b := ⟨_, rfl⟩
          obtain ⟨ib, hie⟩ := hin
          have HIC := Lib.hid (fun W hT => in_calls ⟨#[42, 42, 32, 43, 43, 32, 45, 45]⟩ bashesL g W set_bashes hT)
          rw [hie] at HGO2 HIC
          have HTB := Lib.hid (HS.out.p.tab.below (below_drew (Below.refl _ wr)))
          have HTC := Lib.hid HS.out.p.tab
          cases ib with
          | true =>
            have HGO3 := Lib.hid (show signGo s false a (signsL.drop (j + 1)) = r from by have h := HGO2.out; rw [Bool.not_true, if_neg (by decide)] at h; exact h)
            clear hpe HGO2 hie
            go_wp2_with fail
            go_region_law (first | (go_simp; go_at_call 43; (with_reducible refine (HHP.out _).mono ?_); rintro e w5 ⟨rfl, rfl⟩; dsimp only) | (go_simp; go_at_call 26; (with_reducible refine (HIC.out _ (by first | exact HTB.out | exact HTC.out)).mono ?_); rintro e w6 ⟨rfl, hb6⟩; dsimp only))
            all_goals (
              have HS2 := Lib.hid (HS.out.bel (below_step (below_drew (Below.refl _ wr)) hb6))
              clear hp0 hp1 ht2 haS hb0 hb1 y0 hb6
              go_wp2_with fail
              go_roundw
              (case rel => exact ⟨j + 1, by go_num, by omega, HGO3.out, HS2.out⟩)
              (case measure => simp [intOf]; omega))
          | false =>
            have HGO3 := Lib.hid (show (⟨3, g, a, n2⟩ : Tok) = r from by have h := HGO2.out; rw [Bool.not_false, if_pos rfl] at h; exact h)
            clear hpe HGO2 hie
            go_wp2_with fail
            go_region_law (first | (go_simp; go_at_call 43; (with_reducible refine (HHP.out _).mono ?_); rintro e w5 ⟨rfl, rfl⟩; dsimp only) | (go_simp; go_at_call 26; (with_reducible refine (HIC.out _ (by first | exact HTB.out | exact HTC.out)).mono ?_); rintro e w6 ⟨rfl, hb6⟩; dsimp only))
            all_goals (
              have HS2 := Lib.hid (HS.out.bel (below_step (below_drew (Below.refl _ wr)) hb6))
              clear hb6
              obtain ⟨q0, q1, q2, q3, q4, q5, q6, q7⟩ := HS2.out.bt.all4
              obtain ⟨z0, z1, z2, z3, z4, z5, z6, z7⟩ := HS2.out.br.all4
              clear hp0 hp1 ht2 haS hb0 hb1 y0
              go_wp2_with fail
              refine bodyPost_ret (results_cell_row rfl _ _ (w.heap.size + 1) 44 #[.int .i64 3, .string g, .int .i64 a, .int .i64 n2] (0, 0) _ rfl (HS2.out.br.set4 _ _ _ _) Tryd.underlying44 rfl (by kernel_rfl)) rfl ?_
              rw [← HGO3.out]
              exact ⟨rfl, (below_box4 HS2.out.b (Nat.le_succ _) _ _ _ _)⟩)
    · have hje : j = 39 := by omega
      subst hje
      have hd : signsL.drop 39 = [] := List.drop_of_length_le (by rw [HLEN.out]; exact Nat.le_refl _)
      have hgo := HGO.out
      rw [hd, signGo] at hgo
      obtain ⟨q0, q1, q2, q3, q4, q5, q6, q7⟩ := HS.out.bt.all4
      obtain ⟨z0, z1, z2, z3, z4, z5, z6, z7⟩ := HS.out.br.all4
      have HGO3 := Lib.hid hgo
      clear hgo hd
      go_wp2_with fail
      refine bodyPost_ret (results_cell_row rfl _ _ (w.heap.size + 1) 44 #[.int .i64 4, .string em, .int .i64 a, .int .i64 (a + 1 : Nat)] (0, 0) _ rfl (HS.out.br.set4 _ _ _ _) Tryd.underlying44 rfl (by kernel_rfl)) rfl ?_
      rw [← HGO3.out]
      exact ⟨rfl, (below_box4 HS.out.b (Nat.le_succ _) _ _ _ _)⟩
end Go.Proofs.YtlbgnpllbogkeaaDoor.Ext

/- Proved: arith's parser: sign's call. Proved: arith's parser: next's call. -/
import Derived.Test.YtlbgnpllbogkeaaDoorVkArWord
import Derived.Deep.QuietTactic
import Derived.BigQuiet
import Derived.IntWalk
section
set_option linter.unusedVariables false
set_option linter.unusedSimpArgs false
namespace Go.Proofs.YtlbgnpllbogkeaaDoor.Ext
open Go.RowKit Go.Proofs.YtlbgnpllbogkeaaDoorW.PrintWords
def signsT : ByteArray := ⟨([60, 60, 61, 32, 62, 62, 61, 32, 42, 42, 32, 43, 43, 32, 45, 45, 32, 60, 60, 32, 62, 62, 32, 60, 61, 32, 62, 61, 32, 61, 61, 32, 33, 61, 32, 38, 38, 32, 124, 124, 32, 42, 61, 32, 47, 61, 32, 37, 61, 32].append [43, 61, 32, 45, 61, 32, 38, 61, 32, 94, 61, 32, 124, 61, 32, 42, 32, 47, 32, 37, 32, 43, 32, 45, 32, 60, 32, 62, 32, 61, 32, 33, 32, 126, 32, 38, 32, 94, 32, 124, 32, 63, 32, 58, 32, 44, 32, 40, 32, 41]).toArray⟩
set_option maxRecDepth 100000 in
theorem set_signs : SetOf signsT signsL := ⟨by decide, by decide, by decide, by decide, by decide⟩
theorem set_bashes : SetOf ⟨#[42, 42, 32, 43, 43, 32, 45, 45]⟩ bashesL := ⟨by decide, by decide, by decide, by decide, by decide⟩
/-- strings.Fields of a text of words. -/
theorem fields_calls {set : ByteArray} {l : List ByteArray} (hs : SetOf set l) (w : World) (hT : Tab w) : Calls Tryd.prog 40 #[.string set] w fun e w' => e = .returned (.slice (some ⟨w.heap.size, 0, none⟩) l.length l.length) ∧ w' = w.alloc (.cells (l.map Value.string).toArray 9) := by
  obtain ⟨h1, h2, h3, h4, h5⟩ := hs
  have hF := Tryd.strings_Fields_laid set w (by omega) (fun j c hj => by simpa using List.all_eq_true.1 h4 c (List.mem_of_getElem? hj)) hT
  have hlen : (Lib.fields set.data.toList).length = l.length := by rw [← h5, List.length_map]
  have hcells : ((Lib.fields set.data.toList).map fun l => Value.string ⟨l.toArray⟩).toArray = (l.map Value.string).toArray := by
    rw [← h5, List.map_map]
    rfl
  rw [hlen, hcells] at hF
  exact hF
/-- What sign's loop knows. -/
structure SgAt (w : World) (pb : Nat) (s : ByteArray) (bash : Bool) (t : Tok) (d a F : Nat) (wr : World) : Prop where
  p : PB wr pb s bash t d
  b : Below w.heap.size w wr
  bt : Bk wr w.heap.size 44 #[.int .i64 4, .string em, .int .i64 a, .int .i64 (a + 1 : Nat)]
  br : Bk wr (w.heap.size + 1) 44 #[.int .i64 0, .string ⟨#[]⟩, .int .i64 0, .int .i64 0]
  bf : Bk wr F 9 (signsL.map Value.string).toArray
theorem SgAt.bel {w wr w1 : World} {pb : Nat} {s : ByteArray} {bash : Bool} {t : Tok} {d a F : Nat} (h : SgAt w pb s bash t d a F wr) (hb : Below wr.heap.size wr w1) : SgAt w pb s bash t d a F w1 :=
  ⟨h.p.bel hb, below_step h.b hb, h.bt.bel hb, h.br.bel hb, h.bf.bel hb⟩
theorem Bk.all4 {w : World} {b ty : Nat} {c0 c1 c2 c3 : Value} (h : Bk w b ty #[c0, c1, c2, c3]) : w.cell? ⟨b, 0, none⟩ = some c0 ∧ w.cell? ⟨b, 1, none⟩ = some c1 ∧ w.cell? ⟨b, 2, none⟩ = some c2 ∧ w.cell? ⟨b, 3, none⟩ = some c3 ∧ w.frozen? ⟨b, 0, none⟩ = false ∧ w.frozen? ⟨b, 1, none⟩ = false ∧ w.frozen? ⟨b, 2, none⟩ = false ∧ w.frozen? ⟨b, 3, none⟩ = false :=
  ⟨h.c 0, h.c 1, h.c 2, h.c 3, h.f 0, h.f 1, h.f 2, h.f 3⟩
theorem Bk.set4 {w : World} {b ty : Nat} {c0 c1 c2 c3 : Value} (h : Bk w b ty #[c0, c1, c2, c3]) (u0 u1 u2 u3 : Value) : Bk ((((w.setCell ⟨b, 0, none⟩ u0).setCell ⟨b, 1, none⟩ u1).setCell ⟨b, 2, none⟩ u2).setCell ⟨b, 3, none⟩ u3) b ty #[u0, u1, u2, u3] :=
  heap_setCell_same _ _ 3 _ _ _ (heap_setCell_same _ _ 2 _ _ _ (heap_setCell_same _ _ 1 _ _ _ (heap_setCell_same _ _ 0 _ _ _ h)))
set_option maxHeartbeats 8000000 in
theorem sign_calls {pb : Nat} {s : ByteArray} {bash : Bool} {t : Tok} {d : Nat} (a to0 : Nat) (w : World) (h : PB w pb s bash t d) (ha : a < s.size) :
    Calls Tryd.prog 51 #[parserV pb, .agg #[.int .i64 0, .string em, .int .i64 a, .int .i64 to0]] w fun e w' => e = .returned (.agg #[.int .i64 (signGo s bash a signsL).kind, .string (signGo s bash a signsL).text, .int .i64 (signGo s bash a signsL).pos, .int .i64 (signGo s bash a signsL).to_]) ∧ Below w.heap.size w w' := by
  have hsz := h.sz
  have hw1 : wrap64 ((a : Int) + 1) = ((a + 1 : Nat) : Int) := by unfold wrap64; omega
  obtain ⟨a1, ha1⟩ : ∃ a1, a + 1 = a1 := ⟨_, rfl⟩
  rw [ha1] at hw1
  obtain ⟨r, hr⟩ : ∃ r, signGo s bash a signsL = r := ⟨_, rfl⟩
  rw [hr]
  have HR := Lib.hid hr
  have HP := Lib.hid h
  have HA := Lib.hid ha
  have HA1 := Lib.hid ha1
  have HSZ := Lib.hid hsz
  have HFC := Lib.hid (fun W hT => fields_calls set_signs W hT)
  clear h ha hr ha1 hsz
  go_enter Tryd.func51, Tryd.ntmps51
  go_wp2_with fail
  have hst : SgAt w pb s bash t d a (w.heap.size + 1 + 1) (((w.alloc (.cells #[.int .i64 4, .string em, .int .i64 a, .int .i64 a1] 44)).alloc (.cells #[.int .i64 0, .string ⟨#[]⟩, .int .i64 0, .int .i64 0] 44)).alloc (.cells (signsL.map Value.string).toArray 9)) := by
    have h1 := (Below.refl _ w).alloc (Nat.le_refl _) (.cells #[.int .i64 4, .string em, .int .i64 a, .int .i64 a1] 44)
    have b1 := Bk.new w 44 #[.int .i64 4, .string em, .int .i64 a, .int .i64 a1]
    have e1 : (w.alloc (.cells #[.int .i64 4, .string em, .int .i64 a, .int .i64 a1] 44)).heap.size = w.heap.size + 1 := by simp
    generalize w.alloc (.cells #[.int .i64 4, .string em, .int .i64 a, .int .i64 a1] 44) = w1 at *
    have h2 := (Below.refl _ w1).alloc (Nat.le_refl _) (.cells #[.int .i64 0, .string ⟨#[]⟩, .int .i64 0, .int .i64 0] 44)
    have b2 := Bk.new w1 44 #[.int .i64 0, .string ⟨#[]⟩, .int .i64 0, .int .i64 0]
    have e2 : (w1.alloc (.cells #[.int .i64 0, .string ⟨#[]⟩, .int .i64 0, .int .i64 0] 44)).heap.size = w1.heap.size + 1 := by simp
    generalize w1.alloc (.cells #[.int .i64 0, .string ⟨#[]⟩, .int .i64 0, .int .i64 0] 44) = w2 at *
    have h3 := (Below.refl _ w2).alloc (Nat.le_refl _) (.cells (signsL.map Value.string).toArray 9)
    have b3 := Bk.new w2 9 (signsL.map Value.string).toArray
    rw [e1] at b2 e2
    rw [e2] at b3
    rw [← HA1.out] at b1
    exact ⟨((HP.out.bel h1).bel h2).bel h3, below_step (below_step h1 h2) h3, (b1.bel h2).bel h3, b2.bel h3, b3⟩
  have HST := Lib.hid hst
  have hT : Tab ((w.alloc (.cells #[.int .i64 4, .string em, .int .i64 a, .int .i64 a1] 44)).alloc (.cells #[.int .i64 0, .string ⟨#[]⟩, .int .i64 0, .int .i64 0] 44)) :=
    (HP.out.tab.below ((Below.refl _ w).alloc (Nat.le_refl _) _)).below ((Below.refl _ _).alloc (Nat.le_refl _) _)
  refine (HFC.out _ hT).mono ?_
  rintro e w3 ⟨rfl, rfl⟩
  have hlen : signsL.length = 39 := by decide
  rw [hlen]
  rw [show ((w.alloc (.cells #[.int .i64 4, .string em, .int .i64 a, .int .i64 a1] 44)).alloc (.cells #[.int .i64 0, .string ⟨#[]⟩, .int .i64 0, .int .i64 0] 44)).heap.size = w.heap.size + 1 + 1 by simp]
  generalize (((w.alloc (.cells #[.int .i64 4, .string em, .int .i64 a, .int .i64 a1] 44)).alloc (.cells #[.int .i64 0, .string ⟨#[]⟩, .int .i64 0, .int .i64 0] 44)).alloc (.cells (signsL.map Value.string).toArray 9)) = w4 at HST ⊢
  have HLEN := Lib.hid hlen
  clear hst hT hlen HFC
  go_wp2_with fail
  go_loopw [14] (fun n wr => ∃ (j : Nat), n = .int .i64 j ∧ j ≤ 39 ∧ signGo s bash a (signsL.drop j) = r ∧ SgAt w pb s bash t d a (w.heap.size + 1 + 1) wr) (fun n _ => 39 - (intOf n).toNat)
  case atStart => exact ⟨0, rfl, by decide, HR.out, HST.out⟩
  case round =>
    clear HST HR
    obtain ⟨j, rfl, hj, hgo, hS⟩ := hrel
    have HS := Lib.hid hS
    have HGO := Lib.hid hgo
    clear hS hgo
    by_cases hlt : j < 39
    · have hjl : j < signsL.length := by rw [HLEN.out]; exact hlt
      have hgo := HGO.out
      have y0 := HS.out.bf.c j
      rw [List.getElem?_toArray, List.getElem?_map, List.getElem?_eq_getElem hjl, Option.map_some] at y0
      rw [List.drop_eq_getElem_cons hjl, signGo] at hgo
      have hsm := signs_fine _ (List.getElem_mem hjl)
      generalize signsL[j]'hjl = g at *
      unfold signOk at hgo
      obtain ⟨n2, hn2⟩ : ∃ n2, a + g.size = n2 := ⟨_, rfl⟩
      have hw2 : wrap64 ((a : Int) + (g.size : Int)) = (n2 : Int) := by have h1 := HSZ.out; have h2 := HA.out; have h3 := hsm.2; unfold wrap64; omega
      rw [hn2] at hgo
      have HN2 := Lib.hid hn2
      clear hn2
      have HGO2 := Lib.hid hgo
      have HY := Lib.hid y0
      have hp0 := HS.out.p.c0
      have hp1 := HS.out.p.c1
      have ht2 := HS.out.bt.c 2
      have haS := HA.out
      have hb0 : (0 : Int) ≤ (a : Int) := by omega
      have hb1 : (a : Int) ≤ (s.size : Int) := by omega
      have mixed : Tryd.prog.follows Departure.mixedOrders = true := by kernel_rfl
      have HHP := Lib.hid (fun W => Tryd.strings_HasPrefix (s.extract a s.size) g W)
      clear hgo HGO
      have hpref : ∃ b, Lib.hasPrefix (s.extract a s.size).data.toList g.data.toList = b := ⟨_, rfl⟩
      obtain ⟨hb, hpe⟩ := hpref
      rw [hpe] at HGO2 HHP
      cases hb with
      | false =>
        have HGO3 := Lib.hid (show signGo s bash a (signsL.drop (j + 1)) = r from by have h := HGO2.out; rw [Bool.false_and, if_neg (by decide)] at h; exact h)
        clear hpe HGO2
        go_wp2_with fail
        go_quiet ((go_at_call 43; refine Calls.quiet_of_same (HHP.out _)))
        have HS2 := Lib.hid (HS.out.bel (pw_below_drewN (Below.refl _ wr) nq))
        clear hp0 hp1 ht2 haS hb0 hb1 y0
        go_wp2_with fail
        go_roundw
        case rel => exact ⟨j + 1, by go_num, by omega, HGO3.out, HS2.out⟩
        case measure => simp [intOf]; omega
      | true =>
        rw [Bool.true_and] at HGO2
        cases bash with
        | true =>
          have HGO3 := Lib.hid (show (⟨3, g, a, n2⟩ : Tok) = r from by have h := HGO2.out; rw [Bool.true_or, if_pos rfl] at h; exact h)
          clear hpe HGO2
          go_wp2_with fail
          go_quiet ((go_at_call 43; refine Calls.quiet_of_same (HHP.out _)))
          have HS2 := Lib.hid (HS.out.bel (pw_below_drewN (Below.refl _ wr) nq))
          obtain ⟨q0, q1, q2, q3, q4, q5, q6, q7⟩ := HS2.out.bt.all4
          obtain ⟨z0, z1, z2, z3, z4, z5, z6, z7⟩ := HS2.out.br.all4
          clear hp0 hp1 ht2 haS hb0 hb1 y0
          go_wp2_with fail
          refine bodyPost_ret (results_cell_row rfl _ _ (w.heap.size + 1) 44 #[.int .i64 3, .string g, .int .i64 a, .int .i64 n2] (0, 0) _ rfl (HS2.out.br.set4 _ _ _ _) Tryd.underlying44 rfl (by kernel_rfl)) rfl ?_
          rw [← HGO3.out]
          exact ⟨rfl, (below_box4 HS2.out.b (Nat.le_succ _) _ _ _ _)⟩
        | false =>
          rw [Bool.false_or] at HGO2
          have hin : ∃ b, inL bashesL g = b := ⟨_, rfl⟩
          obtain ⟨ib, hie⟩ := hin
          have HIC := Lib.hid (fun W hT => in_calls ⟨#[42, 42, 32, 43, 43, 32, 45, 45]⟩ bashesL g W set_bashes hT)
          rw [hie] at HGO2 HIC
          have HTB := Lib.hid (HS.out.p.tab.below (below_drew (Below.refl _ wr)))
          have HTC := Lib.hid HS.out.p.tab
          cases ib with
          | true =>
            have HGO3 := Lib.hid (show signGo s false a (signsL.drop (j + 1)) = r from by have h := HGO2.out; rw [Bool.not_true, if_neg (by decide)] at h; exact h)
            clear hpe HGO2 hie
            go_wp2_with fail
            go_region_law (first | (go_simp; go_at_call 43; (with_reducible refine (HHP.out _).mono ?_); rintro e w5 ⟨rfl, rfl⟩; dsimp only) | (go_simp; go_at_call 26; (with_reducible refine (HIC.out _ (by first | exact HTB.out | exact HTC.out)).mono ?_); rintro e w6 ⟨rfl, hb6⟩; dsimp only))
            all_goals (
              have HS2 := Lib.hid (HS.out.bel (below_step (below_drew (Below.refl _ wr)) hb6))
              clear hp0 hp1 ht2 haS hb0 hb1 y0 hb6
              go_wp2_with fail
              go_roundw
              (case rel => exact ⟨j + 1, by go_num, by omega, HGO3.out, HS2.out⟩)
              (case measure => simp [intOf]; omega))
          | false =>
            have HGO3 := Lib.hid (show (⟨3, g, a, n2⟩ : Tok) = r from by have h := HGO2.out; rw [Bool.not_false, if_pos rfl] at h; exact h)
            clear hpe HGO2 hie
            go_wp2_with fail
            go_region_law (first | (go_simp; go_at_call 43; (with_reducible refine (HHP.out _).mono ?_); rintro e w5 ⟨rfl, rfl⟩; dsimp only) | (go_simp; go_at_call 26; (with_reducible refine (HIC.out _ (by first | exact HTB.out | exact HTC.out)).mono ?_); rintro e w6 ⟨rfl, hb6⟩; dsimp only))
            all_goals (
              have HS2 := Lib.hid (HS.out.bel (below_step (below_drew (Below.refl _ wr)) hb6))
              clear hb6
              obtain ⟨q0, q1, q2, q3, q4, q5, q6, q7⟩ := HS2.out.bt.all4
              obtain ⟨z0, z1, z2, z3, z4, z5, z6, z7⟩ := HS2.out.br.all4
              clear hp0 hp1 ht2 haS hb0 hb1 y0
              go_wp2_with fail
              refine bodyPost_ret (results_cell_row rfl _ _ (w.heap.size + 1) 44 #[.int .i64 3, .string g, .int .i64 a, .int .i64 n2] (0, 0) _ rfl (HS2.out.br.set4 _ _ _ _) Tryd.underlying44 rfl (by kernel_rfl)) rfl ?_
              rw [← HGO3.out]
              exact ⟨rfl, (below_box4 HS2.out.b (Nat.le_succ _) _ _ _ _)⟩)
    · have hje : j = 39 := by omega
      subst hje
      have hd : signsL.drop 39 = [] := List.drop_of_length_le (by rw [HLEN.out]; exact Nat.le_refl _)
      have hgo := HGO.out
      rw [hd, signGo] at hgo
      obtain ⟨q0, q1, q2, q3, q4, q5, q6, q7⟩ := HS.out.bt.all4
      obtain ⟨z0, z1, z2, z3, z4, z5, z6, z7⟩ := HS.out.br.all4
      have HGO3 := Lib.hid hgo
      clear hgo hd
      go_wp2_with fail
      refine bodyPost_ret (results_cell_row rfl _ _ (w.heap.size + 1) 44 #[.int .i64 4, .string em, .int .i64 a, .int .i64 (a + 1 : Nat)] (0, 0) _ rfl (HS.out.br.set4 _ _ _ _) Tryd.underlying44 rfl (by kernel_rfl)) rfl ?_
      rw [← HGO3.out]
      exact ⟨rfl, (below_box4 HS.out.b (Nat.le_succ _) _ _ _ _)⟩
end Go.Proofs.YtlbgnpllbogkeaaDoor.Ext
end

section
set_option linter.unusedVariables false
set_option linter.unusedSimpArgs false
namespace Go.Proofs.YtlbgnpllbogkeaaDoor.Ext
open Go.RowKit Go.Proofs.YtlbgnpllbogkeaaDoorW.PrintWords
set_option maxRecDepth 100000 in
theorem blank_nat : ∀ n, n < 256 → decide (0 ≤ Lib.indexByte [32, 9, 10] (UInt8.ofNat n)) = blankB (UInt8.ofNat n) := by decide
theorem blank_at (b : UInt8) : decide (0 ≤ Lib.indexByte [32, 9, 10] b) = blankB b := by
  have h := blank_nat b.toNat b.toNat_lt
  rwa [UInt8.ofNat_toNat] at h
/-- The token's box and the result's. -/
structure NxAt (w : World) (pb : Nat) (s : ByteArray) (bash : Bool) (t : Tok) (d : Nat) (tk : Tok) (wr : World) : Prop where
  p : PB wr pb s bash t d
  b : Below w.heap.size w wr
  br : Bk wr w.heap.size 44 #[.int .i64 0, .string ⟨#[]⟩, .int .i64 0, .int .i64 0]
  bt : Bk wr (w.heap.size + 1) 44 #[.int .i64 tk.kind, .string tk.text, .int .i64 tk.pos, .int .i64 tk.to_]
section
variable {w wr w1 : World} {pb : Nat} {s : ByteArray} {bash : Bool} {t tk : Tok} {d : Nat}
theorem NxAt.bel (h : NxAt w pb s bash t d tk wr) (hb : Below wr.heap.size wr w1) : NxAt w pb s bash t d tk w1 := ⟨h.p.bel hb, below_step h.b hb, h.br.bel hb, h.bt.bel hb⟩
theorem wrap_sub {a b n : Nat} (h : b ≤ a) (ha : a ≤ 16384) (hn : a - b = n) : wrap64 ((a : Int) - (b : Int)) = (n : Int) := by unfold wrap64; omega
theorem wrap_add {a b n : Nat} (hn : a + b = n) (h : n ≤ 40000) : wrap64 ((a : Int) + (b : Int)) = (n : Int) := by unfold wrap64; omega
theorem wrapI_sub {a b n : Nat} (h : b ≤ a) (ha : a ≤ 16384) (hn : a - b = n) : IntKind.i64.wrap ((a : Int) - (b : Int)) = (n : Int) := by rw [IntWalk.i64_in _ (by omega)]; omega
theorem wrapI_add {a b n : Nat} (hn : a + b = n) (h : n ≤ 40000) : IntKind.i64.wrap ((a : Int) + (b : Int)) = (n : Int) := by rw [IntWalk.i64_in _ (by omega)]; omega
theorem Tab.far {w w' : World} {b ty : Nat} {cs : Array Value} {n : Int} (h : Tab w) (hb : Bk w b ty cs) (h0 : cs[0]? = some (.int .i64 n)) (hg : w.grownBy w' (some b)) : Tab w' := by
  unfold Tab Lib.TabIs World.var? at h ⊢
  obtain ⟨g, hgn, hT⟩ := Option.bind_eq_some_iff.1 h
  rw [hgn, Option.bind_some]
  have hlt : g < w.heap.size := by
    rcases Nat.lt_or_ge g w.heap.size with hl | hl
    · exact hl
    · rw [Array.getElem?_eq_none hl] at hT
      cases hT
  have hne : g ≠ b := by
    intro e
    rw [e, show w.heap[b]? = _ from hb] at hT
    have h1 := congrArg (fun o : Option (Array Value) => o.bind (fun a => a[0]?)) hT
    have h2 : cs[0]? = ((Lib.asciiSpaceTab.map fun z => Value.int .u8 z).toArray)[0]? := h1
    rw [h0, List.getElem?_toArray, List.getElem?_map] at h2
    cases h3 : Lib.asciiSpaceTab[0]? with
    | none => rw [h3] at h2; cases h2
    | some z => rw [h3] at h2; cases h2
  rw [hg.block g hlt (fun e => hne (Option.some.inj e))]
  exact hT
theorem NxAt.upd {tk' : Tok} (hpb : pb < w.heap.size) (h : NxAt w pb s bash t d tk wr) (hg : wr.grownBy w1 (some (w.heap.size + 1))) (hbt : Bk w1 (w.heap.size + 1) 44 #[.int .i64 tk'.kind, .string tk'.text, .int .i64 tk'.pos, .int .i64 tk'.to_]) : NxAt w pb s bash t d tk' w1 := by
  have hsz := h.b.size
  refine ⟨⟨(hg.block pb h.p.lt (fun e => by injection e with e; omega)).trans h.p.blk, h.p.tab.far h.bt rfl hg, h.p.d60, h.p.sz, h.p.tle, h.p.txt⟩, ?_, (hg.block _ h.br.lt (fun e => by injection e with e; omega)).trans h.br, hbt⟩
  exact ⟨hg.os.trans h.b.os, hg.tape.trans h.b.tape, hg.output.trans h.b.output, Nat.le_trans h.b.size hg.size, fun k hk => (hg.block k (by omega) (fun e => by injection e with e; omega)).trans (h.b.block k hk)⟩
theorem NxAt.setTT (hpb : pb < w.heap.size) (h : NxAt w pb s bash t d tk wr) (x : ByteArray) (n : Nat) : NxAt w pb s bash t d ⟨tk.kind, x, tk.pos, n⟩ ((wr.setCell ⟨w.heap.size + 1, 1, none⟩ (.string x)).setCell ⟨w.heap.size + 1, 3, none⟩ (.int .i64 n)).drew :=
  h.upd hpb (grown_trans (grown_trans (grown_set 1 _) (grown_set 3 _)) (grown_of_below (Below.refl _ _).drew _)) (heap_setCell_same _ _ 3 _ _ _ (heap_setCell_same _ _ 1 _ _ _ h.bt))
theorem NxAt.setK (hpb : pb < w.heap.size) (h : NxAt w pb s bash t d tk wr) (k : Nat) (K : Int) (hK : K = (k : Int)) : NxAt w pb s bash t d ⟨k, tk.text, tk.pos, tk.to_⟩ (wr.setCell ⟨w.heap.size + 1, 0, none⟩ (.int .i64 K)) := by
  subst hK
  exact h.upd hpb (grown_set 0 _) (heap_setCell_same _ _ 0 _ _ _ h.bt)
theorem n2_le {a b c n1 n2 : Nat} (ha : a ≤ 16384) (hc : c ≤ 16384) (h1 : a - b = n1) (h2 : n1 + c = n2) : n2 ≤ 40000 := by omega
theorem rest_le (s : ByteArray) (a : Nat) : (restF s a).size ≤ s.size := by
  rw [rest_size]
  split <;> omega
set_option maxHeartbeats 16000000 in
theorem next_calls : NextC (nextF s bash) pb s bash := by
  intro t d i w h hi
  have hsz := h.sz
  have HP := Lib.hid h
  have hba := (Below.refl _ w).alloc (Nat.le_refl _) (.cells #[.int .i64 0, .string ⟨#[]⟩, .int .i64 0, .int .i64 0] 44)
  have HP0 := Lib.hid (h.bel hba)
  have HBR := Lib.hid (Bk.new w 44 #[.int .i64 0, .string ⟨#[]⟩, .int .i64 0, .int .i64 0])
  have HBA := Lib.hid hba
  obtain ⟨a, ha⟩ : ∃ a, skipF s i = a := ⟨_, rfl⟩
  have hal := skip_le s i hi
  rw [ha] at hal
  have HAL := Lib.hid hal
  have HSK := Lib.hid (show i + runL blankB (s.data.toList.drop i) = a from ha)
  have HHA := Lib.hid ha
  have HSZ := Lib.hid hsz
  have HIX := Lib.hid (fun c W => Tryd.strings_IndexByte ⟨#[32, 9, 10]⟩ c W)
  obtain ⟨r, hr⟩ : ∃ r, nextF s bash i = r := ⟨_, rfl⟩
  rw [hr]
  have HR := Lib.hid hr
  have HI := Lib.hid hi
  clear h hba ha hal hsz hr hi
  go_enter Tryd.func31, Tryd.ntmps31
  go_wp2_with fail
  obtain ⟨w0, hw0⟩ : ∃ w0, w0 = w.alloc (.cells #[.int .i64 0, .string ⟨#[]⟩, .int .i64 0, .int .i64 0] 44) := ⟨_, rfl⟩
  rw [← hw0] at HP0 HBR HBA ⊢
  have hn0 : w0.heap.size = w.heap.size + 1 := by rw [hw0]; simp
  have HN0 := Lib.hid hn0
  clear hw0 hn0
  go_loopw [1] (fun n wr => ∃ (j : Nat), n = .int .i64 j ∧ j ≤ s.size ∧ j + runL blankB (s.data.toList.drop j) = a ∧ w0 = wr) (fun n _ => s.size - (intOf n).toNat)
  case atStart => exact ⟨i, rfl, HI.out, HSK.out, rfl⟩
  case round =>
    obtain ⟨j, rfl, hj, hrun, rfl⟩ := hrel
    have hp0 := HP0.out.c0
    have hszc := HSZ.out
    by_cases hlt : j < s.size
    · have hl : j < s.data.toList.length := by rw [← Lib.size_eq]; exact hlt
      rw [runL_step blankB hl] at hrun
      have hx : ∀ h : j < s.size, s[j]'h = s.data.toList[j]'hl := fun h => by simp [ByteArray.getElem_eq_getElem_data]
      obtain ⟨c, hcc⟩ : ∃ c, c = s.data.toList[j]'hl := ⟨_, rfl⟩
      rw [← hcc] at hrun hx
      have HRN := Lib.hid hrun
      have HC := Lib.hid (HIX.out (c.toNat : Int))
      have hcb : ((c.toNat : Int).toNat.toUInt8) = c := by simp
      rw [hcb] at HC
      have hbl := blank_at c
      generalize Lib.indexByte [32, 9, 10] c = ix at *
      cases hb : blankB c with
      | true =>
        rw [hb] at hbl
        rw [hb, if_pos rfl] at HRN
        have HBL := Lib.hid hbl
        clear hrun hl hcc hcb hb
        go_wp2_with fail
        refine (HC.out _).mono ?_
        rintro e w2 ⟨rfl, hw2⟩
        rw [hw2]
        clear hw2
        go_wp2_with fail
        go_roundw
        case rel => exact ⟨j + 1, by go_num, by omega, by have := HRN.out; omega, by first | rfl | trivial⟩
        case measure => simp [intOf]; omega
      | false =>
        rw [hb] at hbl
        rw [hb, if_neg (by decide)] at HRN
        obtain rfl : j = a := by have := HRN.out; omega
        have HBL := Lib.hid hbl
        have hne : ((j : Int) == (s.size : Int)) = false := beq_eq_false_iff_ne.2 (by omega)
        have HLT := Lib.hid hlt
        have HN := Lib.hid (show NxAt w pb s bash t d ⟨0, em, j, j⟩ (w0.alloc (.cells #[.int .i64 0, .string ⟨#[]⟩, .int .i64 j, .int .i64 j] 44)) from by
          have h1 := (Below.refl _ w0).alloc (Nat.le_refl _) (.cells #[.int .i64 0, .string ⟨#[]⟩, .int .i64 j, .int .i64 j] 44)
          have b1 := Bk.new w0 44 #[.int .i64 0, .string ⟨#[]⟩, .int .i64 j, .int .i64 j]
          rw [HN0.out] at b1
          exact ⟨HP0.out.bel h1, below_step HBA.out h1, HBR.out.bel h1, b1⟩)
        have y0 := HN.out.p.c0
        have hj0 : (0 : Int) ≤ (j : Int) := by omega
        have hj1 : (j : Int) ≤ (s.size : Int) := by omega
        have hj2 : ((j : Int) < (s.size : Int)) := by omega
        have HCP := Lib.hid (fun W => show Calls Tryd.prog 47 #[.string (s.extract j s.size), .string ⟨#[36]⟩] W fun e w' => e = .returned (.tuple #[.string (restF s j), .bool (dollarB s j)]) ∧ w' = W from Tryd.strings_CutPrefix (s.extract j s.size) ⟨#[36]⟩ W)
        have hrr := HR.out
        unfold nextF at hrr
        rw [HHA.out, if_neg (by omega)] at hrr
        obtain ⟨rr, hrre⟩ : ∃ rr, restF s j = rr := ⟨_, rfl⟩
        obtain ⟨dl, hdle⟩ : ∃ dl, dollarB s j = dl := ⟨_, rfl⟩
        rw [hrre, hdle] at HCP hrr
        have hwl := word_le rr
        have HWC := Lib.hid (fun W hb => word_calls rr W hb)
        obtain ⟨wd, hwde⟩ : ∃ wd, wordF rr = wd := ⟨_, rfl⟩
        rw [hwde] at hrr hwl HWC
        have hrsz := rest_le s j
        rw [hrre] at hrsz
        have hszz := HSZ.out
        have HWS := Lib.hid (Nat.le_trans hwl (Nat.le_trans hrsz hszz))
        have HRS := Lib.hid (Nat.le_trans hrsz hszz)
        obtain ⟨n1, hn1⟩ : ∃ n1, s.size - rr.size = n1 := ⟨_, rfl⟩
        obtain ⟨n2, hn2⟩ : ∃ n2, n1 + wd.size = n2 := ⟨_, rfl⟩
        rw [hn1, hn2] at hrr
        have hv1 := wrap_sub hrsz hszz hn1
        have h40 := n2_le hszz HWS.out hn1 hn2
        have hv2 := wrap_add hn2 h40
        have HV1 := Lib.hid (wrapI_sub hrsz hszz hn1)
        have HV2 := Lib.hid (wrapI_add hn2 h40)
        have HRR := Lib.hid hrr
        clear hrr hrre hdle hwl hwde hrsz hszz hn1 hn2 hv1 hv2 h40
        clear hrun hl hcc hcb hb
        go_wp2_with fail
        refine (HC.out _).mono ?_
        rintro e w2 ⟨rfl, hw2⟩
        rw [hw2]
        clear hw2
        clear hx
        go_wp2_with fail
        refine (HCP.out _).mono ?_
        rintro e w2 ⟨rfl, hw2⟩
        rw [hw2]
        clear hw2
        go_wp2_with fail
        obtain ⟨w1, hw1⟩ : ∃ w1, w1 = w0.alloc (.cells #[.int .i64 0, .string ⟨#[]⟩, .int .i64 j, .int .i64 j] 44) := ⟨_, rfl⟩
        rw [← hw1] at HN ⊢
        rw [HN0.out]
        clear hw1 y0
        refine (HWC.out _ HRS.out).mono ?_
        rintro e w2 ⟨rfl, hb2⟩
        have HN2 := Lib.hid (HN.out.bel hb2)
        have y0 := HN2.out.p.c0
        obtain ⟨t0, t1, t2, t3, t4, t5, t6, t7⟩ := HN2.out.bt.all4
        have hv1 := HV1.out
        have hv2 := HV2.out
        have mixed : Tryd.prog.follows Departure.mixedOrders = true := by kernel_rfl
        clear hb2
        go_wp2_with fail
        go_region_law (fail)
        all_goals (
          obtain ⟨w5, hw5, hn5⟩ : ∃ w5, w5 = _ ∧ NxAt w pb s bash t d ⟨0, wd, j, n2⟩ w5 := by
            first | exact ⟨_, rfl, HN2.out.setTT HP.out.lt wd n2⟩ | exact ⟨_, rfl, HN2.out.setTT' HP.out.lt wd n2⟩
          rw [← hw5]
          have HN3 := Lib.hid hn5
          clear hw5 hn5 t0 t1 t2 t3 t4 t5 t6 t7 y0 hv1 hv2
          have HLI := Lib.hid (fun W => lit2_calls wd W HWS.out)
          have HNM := Lib.hid (fun W => name_calls wd W HWS.out)
          have hrr := HRR.out
          cases hnm : nameOf wd with
          | true =>
            rw [hnm] at HNM
            rw [hnm, if_pos rfl] at hrr
            have HRR2 := Lib.hid hrr
            generalize (litOf wd).1 = l1 at *
            generalize (litOf wd).2 = l2 at *
            clear hrr hnm
            go_wp2_with fail
            refine (HLI.out _).mono ?_
            rintro e w6 ⟨rfl, hb6⟩
            go_wp2_with fail
            refine (HNM.out _).mono ?_
            rintro e w7 ⟨rfl, hb7⟩
            have HN4 := Lib.hid ((HN3.out.bel hb6).bel hb7)
            obtain ⟨t0, t1, t2, t3, t4, t5, t6, t7⟩ := HN4.out.bt.all4
            clear hb6 hb7
            have HN5 := Lib.hid (HN4.out.setK HP.out.lt 2 2 rfl)
            obtain ⟨q0, q1, q2, q3, q4, q5, q6, q7⟩ := HN5.out.bt.all4
            obtain ⟨z0, z1, z2, z3, z4, z5, z6, z7⟩ := HN5.out.br.all4
            go_wp2_with fail
            refine bodyPost_ret (results_cell_row rfl _ _ w.heap.size 44 #[.int .i64 2, .string wd, .int .i64 j, .int .i64 n2] (0, 0) _ rfl (HN5.out.br.set4 _ _ _ _) Tryd.underlying44 rfl (by kernel_rfl)) rfl ?_
            rw [← HRR2.out]
            exact ⟨rfl, (below_box4 HN5.out.b (Nat.le_refl _) _ _ _ _)⟩
          | false =>
            rw [hnm] at HNM
            rw [hnm, if_neg (by decide)] at hrr
            obtain ⟨l2, hl2⟩ : ∃ l2, (litOf wd).2 = l2 := ⟨_, rfl⟩
            rw [hl2] at hrr HLI
            generalize (litOf wd).1 = l1 at *
            clear hnm
            cases hdl : dl with
            | true =>
              subst hdl
              rw [if_neg (by simp), if_pos (by simp)] at hrr
              have HRR2 := Lib.hid hrr
              clear hrr hl2
              go_wp2_with fail
              refine (HLI.out _).mono ?_
              rintro e w6 ⟨rfl, hb6⟩
              go_wp2_with fail
              refine (HNM.out _).mono ?_
              rintro e w7 ⟨rfl, hb7⟩
              have HN4 := Lib.hid ((HN3.out.bel hb6).bel hb7)
              obtain ⟨t0, t1, t2, t3, t4, t5, t6, t7⟩ := HN4.out.bt.all4
              clear hb6 hb7
              have HN5 := Lib.hid (HN4.out.setK HP.out.lt 4 4 rfl)
              obtain ⟨q0, q1, q2, q3, q4, q5, q6, q7⟩ := HN5.out.bt.all4
              obtain ⟨z0, z1, z2, z3, z4, z5, z6, z7⟩ := HN5.out.br.all4
              go_wp2_with fail
              refine bodyPost_ret (results_cell_row rfl _ _ w.heap.size 44 #[.int .i64 4, .string wd, .int .i64 j, .int .i64 n2] (0, 0) _ rfl (HN5.out.br.set4 _ _ _ _) Tryd.underlying44 rfl (by kernel_rfl)) rfl ?_
              rw [← HRR2.out]
              exact ⟨rfl, (below_box4 HN5.out.b (Nat.le_refl _) _ _ _ _)⟩
            | false =>
              subst hdl
              rw [Bool.not_false, Bool.true_and] at hrr
              rw [Bool.false_or] at hrr
              cases hlz : (l2 == 0) with
              | true =>
                rw [hlz, if_pos rfl] at hrr
                have HRR2 := Lib.hid hrr
                clear hrr hl2
                go_wp2_with fail
                refine (HLI.out _).mono ?_
                rintro e w6 ⟨rfl, hb6⟩
                go_wp2_with fail
                refine (HNM.out _).mono ?_
                rintro e w7 ⟨rfl, hb7⟩
                have HN4 := Lib.hid ((HN3.out.bel hb6).bel hb7)
                obtain ⟨t0, t1, t2, t3, t4, t5, t6, t7⟩ := HN4.out.bt.all4
                clear hb6 hb7
                have HN5 := Lib.hid (HN4.out.setK HP.out.lt 1 1 rfl)
                obtain ⟨q0, q1, q2, q3, q4, q5, q6, q7⟩ := HN5.out.bt.all4
                obtain ⟨z0, z1, z2, z3, z4, z5, z6, z7⟩ := HN5.out.br.all4
                go_wp2_with fail
                refine bodyPost_ret (results_cell_row rfl _ _ w.heap.size 44 #[.int .i64 1, .string wd, .int .i64 j, .int .i64 n2] (0, 0) _ rfl (HN5.out.br.set4 _ _ _ _) Tryd.underlying44 rfl (by kernel_rfl)) rfl ?_
                rw [← HRR2.out]
                exact ⟨rfl, (below_box4 HN5.out.b (Nat.le_refl _) _ _ _ _)⟩
              | false =>
                rw [hlz, if_neg (by decide)] at hrr
                by_cases hw0 : wd.size = 0
                · rw [if_neg (by simp [hw0])] at hrr
                  have hwe : wd = em := by
                    apply ByteArray.ext
                    apply Array.ext'
                    exact List.eq_nil_of_length_eq_zero (by rw [← Lib.size_eq]; exact hw0)
                  subst hwe
                  have e1 := emp_true hw0
                  have HRR2 := Lib.hid hrr
                  clear hrr hl2 hw0
                  go_wp2_with fail
                  refine (HLI.out _).mono ?_
                  rintro e w6 ⟨rfl, hb6⟩
                  go_wp2_with fail
                  refine (HNM.out _).mono ?_
                  rintro e w7 ⟨rfl, hb7⟩
                  have HN4 := Lib.hid ((HN3.out.bel hb6).bel hb7)
                  obtain ⟨t0, t1, t2, t3, t4, t5, t6, t7⟩ := HN4.out.bt.all4
                  have HSG := Lib.hid (sign_calls j n2 w7 HN4.out.p HLT.out)
                  clear hb6 hb7
                  go_wp2_with fail
                  refine HSG.out.mono ?_
                  rintro e w8 ⟨rfl, hb8⟩
                  have HN5 := Lib.hid (HN4.out.bel hb8)
                  obtain ⟨z0, z1, z2, z3, z4, z5, z6, z7⟩ := HN5.out.br.all4
                  rw [HRR2.out]
                  clear hb8 t0 t1 t2 t3 t4 t5 t6 t7
                  go_wp2_with fail
                  refine bodyPost_ret (results_cell_row rfl _ _ w.heap.size 44 #[.int .i64 r.kind, .string r.text, .int .i64 r.pos, .int .i64 r.to_] (0, 0) _ rfl (HN5.out.br.set4 _ _ _ _) Tryd.underlying44 rfl (by kernel_rfl)) rfl ?_
                  exact ⟨rfl, (below_box4 HN5.out.b (Nat.le_refl _) _ _ _ _)⟩
                · rw [if_pos (by simp [hw0])] at hrr
                  have e1 := emp_false hw0
                  have HRR2 := Lib.hid hrr
                  clear hrr hl2 hw0
                  go_wp2_with fail
                  refine (HLI.out _).mono ?_
                  rintro e w6 ⟨rfl, hb6⟩
                  go_wp2_with fail
                  refine (HNM.out _).mono ?_
                  rintro e w7 ⟨rfl, hb7⟩
                  have HN4 := Lib.hid ((HN3.out.bel hb6).bel hb7)
                  obtain ⟨t0, t1, t2, t3, t4, t5, t6, t7⟩ := HN4.out.bt.all4
                  clear hb6 hb7
                  have HN5 := Lib.hid (HN4.out.setK HP.out.lt 4 4 rfl)
                  obtain ⟨q0, q1, q2, q3, q4, q5, q6, q7⟩ := HN5.out.bt.all4
                  obtain ⟨z0, z1, z2, z3, z4, z5, z6, z7⟩ := HN5.out.br.all4
                  go_wp2_with fail
                  refine bodyPost_ret (results_cell_row rfl _ _ w.heap.size 44 #[.int .i64 4, .string wd, .int .i64 j, .int .i64 n2] (0, 0) _ rfl (HN5.out.br.set4 _ _ _ _) Tryd.underlying44 rfl (by kernel_rfl)) rfl ?_
                  rw [← HRR2.out]
                  exact ⟨rfl, (below_box4 HN5.out.b (Nat.le_refl _) _ _ _ _)⟩)
    · have hje : j = s.size := by omega
      subst hje
      rw [List.drop_of_length_le (show s.data.toList.length ≤ s.size by rw [← Lib.size_eq]; exact Nat.le_refl _)] at hrun
      obtain rfl : s.size = a := hrun
      have hr := HR.out
      unfold nextF at hr
      rw [HHA.out, if_pos rfl] at hr
      have HR2 := Lib.hid hr
      have HN := Lib.hid (show NxAt w pb s bash t d ⟨0, em, s.size, s.size⟩ (w0.alloc (.cells #[.int .i64 0, .string ⟨#[]⟩, .int .i64 s.size, .int .i64 s.size] 44)) from by
        have h1 := (Below.refl _ w0).alloc (Nat.le_refl _) (.cells #[.int .i64 0, .string ⟨#[]⟩, .int .i64 s.size, .int .i64 s.size] 44)
        have b1 := Bk.new w0 44 #[.int .i64 0, .string ⟨#[]⟩, .int .i64 s.size, .int .i64 s.size]
        rw [HN0.out] at b1
        exact ⟨HP0.out.bel h1, below_step HBA.out h1, HBR.out.bel h1, b1⟩)
      have y0 := HN.out.p.c0
      obtain ⟨z0, z1, z2, z3, z4, z5, z6, z7⟩ := HN.out.br.all4
      clear hr hlt
      go_wp2_with fail
      refine bodyPost_ret (results_cell_row rfl _ _ w.heap.size 44 #[.int .i64 0, .string em, .int .i64 s.size, .int .i64 s.size] (0, 0) _ rfl (HN.out.br.set4 _ _ _ _) Tryd.underlying44 rfl (by kernel_rfl)) rfl ?_
      rw [← HR2.out]
      exact ⟨rfl, (below_box4 HN.out.b (Nat.le_refl _) _ _ _ _)⟩
end
end Go.Proofs.YtlbgnpllbogkeaaDoor.Ext
end

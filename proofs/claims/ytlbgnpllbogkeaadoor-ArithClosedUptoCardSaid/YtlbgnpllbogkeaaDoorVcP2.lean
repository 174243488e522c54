/- Proved: cowrielaw05.ArithClosed's call is true. Conditions: a text of at most 2 to the 21 octets; the table of blanks holds what its initialiser lays. -/
import Derived.Test.YtlbgnpllbogkeaaDoorVcArBl
set_option linter.unusedVariables false
set_option linter.unusedSimpArgs false
namespace Go.Proofs.YtlbgnpllbogkeaaDoor.Ext
open Go.RowKit Go.Proofs.YtlbgnpllbogkeaaDoorW.PrintWords
abbrev bangL : ByteArray := ⟨#[33, 40]⟩
theorem parse_big {t : ByteArray} {bash : Bool} (h : 16384 < t.size) : parseS t bash = (zeroE, 0, 5) := if_pos h
theorem cat_assoc (a b c : ByteArray) : a ++ b ++ c = a ++ (b ++ c) := by
  apply ba_eq
  rw [app_list, app_list, app_list, app_list, List.append_assoc]
/-- The three readings. -/
theorem closed_sum (s : ByteArray) (bash : Bool) : (parseS s bash).2.2 ≠ 0 ∨ ((parseS (sL ++ s ++ parenR) bash).2.2 = 0 ∧ (parseS (bangL ++ s ++ parenR) bash).2.2 = 0 ∧ (parseS (sL ++ s ++ parenR) bash).1 = (parseS s bash).1 ∧ (parseS (bangL ++ s ++ parenR) bash).1 = un bangP (parseS s bash).1) ∨
    ((parseS (sL ++ s ++ parenR) bash).2.2 ≠ 0 ∨ (parseS (bangL ++ s ++ parenR) bash).2.2 ≠ 0) ∧ ((∀ c ∈ s.data.toList, blankB c = true) ∨ (parseS (sL ++ s ++ parenR) bash).2.2 = 42 ∨ (parseS (bangL ++ s ++ parenR) bash).2.2 = 42 ∨ 8192 < s.size) := by
  rw [cat_assoc, cat_assoc]
  by_cases he : (parseS s bash).2.2 = 0
  · right
    by_cases hs : s.size + 3 ≤ 16384
    · obtain ⟨p0, p1⟩ := paren_same (s := s) bash he (by omega)
      obtain ⟨q0, q1⟩ := bang_same (s := s) bash he hs
      by_cases hf : (parseS (sL ++ (s ++ parenR)) bash).2.2 = 0
      · by_cases hg : (parseS (bangL ++ (s ++ parenR)) bash).2.2 = 0
        · exact .inl ⟨hf, hg, p0 hf, q0 hg⟩
        · refine .inr ⟨.inr hg, ?_⟩
          rcases q1 hg with h | h
          · exact .inl h
          · exact .inr (.inr (.inl h))
      · refine .inr ⟨.inl hf, ?_⟩
        rcases p1 hf with h | h
        · exact .inl h
        · exact .inr (.inl h)
    · have hg : (parseS (bangL ++ (s ++ parenR)) bash).2.2 = 5 := by
        rw [parse_big (by rw [big_size]; show 16384 < s.size + 2 + 1; omega)]
      exact .inr ⟨.inr (by rw [hg]; decide), .inr (.inr (.inr (by omega)))⟩
  · exact .inl he
theorem cell_kept {w w' : World} {a : Addr} {u : Value} (h : Below w.heap.size w w') (hc : w.cell? a = some u) : w'.cell? a = some u := by
  rw [World.cell?_of_block (h.block _ (cell_lt hc))]
  exact hc
def cowrielaw05_ArithClosed.f (a0 : ByteArray) (a1 : Bool) : Option Bool := if a0.size ≤ 2097152 then some true else none
set_option maxHeartbeats 8000000 in
set_option maxRecDepth 100000 in
theorem cowrielaw05_ArithClosed.calls (a0 : ByteArray) (a1 : Bool) (r : Bool) (w : World) (hT : Tab w) (h : cowrielaw05_ArithClosed.f a0 a1 = some r) :
    Calls Tryd.prog 3 #[.string a0, .bool a1] w fun e w' => e = .returned (.bool r) ∧ Below w.heap.size w w' := by
  unfold cowrielaw05_ArithClosed.f at h
  split at h
  case isFalse => cases h
  rename_i hsz
  obtain rfl := Option.some.inj h
  have HAL := Lib.hid (alive_calls w hT)
  have HPC := Lib.hid (fun (s : ByteArray) W hT hs => Parse_calls s a1 W hT hs)
  have HNC := Lib.hid num_calls
  have HT := Lib.hid hT
  have HSZ := Lib.hid hsz
  have HCS := Lib.hid (closed_sum a0 a1)
  obtain ⟨bl, hbl, hblc⟩ := blank_calls a0 (by omega)
  have HBL := Lib.hid hbl
  have HBC := Lib.hid hblc
  have hc1 : sL.size + a0.size ≤ 9223372036854775807 := by show 1 + a0.size ≤ _; omega
  have hc2 : (sL ++ a0).size + (⟨#[41]⟩ : ByteArray).size ≤ 9223372036854775807 := by rw [app_size]; show 1 + a0.size + 1 ≤ _; omega
  have hc3 : bangL.size + a0.size ≤ 9223372036854775807 := by show 2 + a0.size ≤ _; omega
  have hc4 : (bangL ++ a0).size + (⟨#[41]⟩ : ByteArray).size ≤ 9223372036854775807 := by rw [app_size]; show 2 + a0.size + 1 ≤ _; omega
  have HZ1 := Lib.hid (show (sL ++ a0 ++ parenR).size ≤ 9223372036854775807 by rw [app_size]; exact hc2)
  have HZ2 := Lib.hid (show (bangL ++ a0 ++ parenR).size ≤ 9223372036854775807 by rw [app_size]; exact hc4)
  clear h hT hbl hblc
  go_enter Tryd.func3, Tryd.ntmps3
  go_wp2_with fail
  refine HAL.out.mono ?_
  rintro e w1 ⟨rfl, hb1⟩
  have HB1 := Lib.hid hb1
  have HT1 := Lib.hid (HT.out.below hb1)
  clear hb1
  go_wp2_with fail
  refine (HPC.out a0 w1 HT1.out (by have := HSZ.out; omega)).mono ?_
  rintro e w2 ⟨A, c, rfl, hS2, hb2⟩
  obtain ⟨R, hR⟩ : ∃ R, parseS a0 a1 = R := ⟨_, rfl⟩
  rw [hR] at HCS hS2 ⊢
  obtain ⟨x, a, e⟩ := R
  dsimp only at HCS hS2 ⊢
  have hbo := (Below.refl _ w2).alloc (Nat.le_refl _) (oneO x A c)
  have HS3 := Lib.hid (hS2.bel hbo)
  have HX3 := Lib.hid (Bx.new w2 #[.string x.op, .string x.name, .int .i64 x.num, .slice A x.kids.length c])
  have HB3 := Lib.hid (below_step HB1.out (below_step hb2 hbo))
  have HT3 := Lib.hid ((HT1.out.below hb2).below hbo)
  clear hS2 hbo hb2 hR
  go_wp2_with fail
  refine (HPC.out (sL ++ a0 ++ parenR) _ HT3.out HZ1.out).mono ?_
  rintro e4 w4 ⟨A4, c4, rfl, hS4, hb4⟩
  obtain ⟨R, hR⟩ : ∃ R, parseS (sL ++ a0 ++ parenR) a1 = R := ⟨_, rfl⟩
  rw [hR] at HCS hS4 ⊢
  obtain ⟨y, b, f⟩ := R
  dsimp only at HCS hS4 ⊢
  have hbo := (Below.refl _ w4).alloc (Nat.le_refl _) (oneO y A4 c4)
  have HS5 := Lib.hid ((HS3.out.bel hb4).bel hbo)
  have HX5 := Lib.hid ((HX3.out.bel hb4).bel hbo)
  have HY5 := Lib.hid (Bx.new w4 #[.string y.op, .string y.name, .int .i64 y.num, .slice A4 y.kids.length c4])
  have HU5 := Lib.hid (hS4.bel hbo)
  have HB5 := Lib.hid (below_step HB3.out (below_step hb4 hbo))
  have HT5 := Lib.hid ((HT3.out.below hb4).below hbo)
  clear hS4 hbo hb4 hR
  go_wp2_with fail
  refine (HPC.out (bangL ++ a0 ++ parenR) _ HT5.out HZ2.out).mono ?_
  rintro e6 w6 ⟨A6, c6, rfl, hS6, hb6⟩
  obtain ⟨R, hR⟩ : ∃ R, parseS (bangL ++ a0 ++ parenR) a1 = R := ⟨_, rfl⟩
  rw [hR] at HCS hS6 ⊢
  obtain ⟨z, d, g⟩ := R
  dsimp only at HCS hS6 ⊢
  have hbo := (Below.refl _ w6).alloc (Nat.le_refl _) (oneO z A6 c6)
  have HS7 := Lib.hid ((HS5.out.bel hb6).bel hbo)
  have HX7 := Lib.hid ((HX5.out.bel hb6).bel hbo)
  have HY7 := Lib.hid ((HY5.out.bel hb6).bel hbo)
  have HU7 := Lib.hid ((HU5.out.bel hb6).bel hbo)
  have HZ7 := Lib.hid (Bx.new w6 #[.string z.op, .string z.name, .int .i64 z.num, .slice A6 z.kids.length c6])
  have HV7 := Lib.hid (hS6.bel hbo)
  have HB7 := Lib.hid (below_step HB5.out (below_step hb6 hbo))
  clear hS6 hbo hb6 hR
  go_wp2_with fail
  obtain ⟨w7, hw7⟩ : ∃ w7, w7 = w6.alloc (oneO z A6 c6) := ⟨_, rfl⟩
  rw [← hw7] at HS7 HX7 HY7 HU7 HZ7 HV7 HB7
  rw [show w6.alloc (.cells #[.string z.op, .string z.name, .int .i64 z.num, .slice A6 z.kids.length c6] 25) = w7 from hw7.symm]
  refine (HNC.out e w7).mono ?_
  rintro e8 w8 ⟨rfl, hb8⟩
  have HB8 := Lib.hid (below_step (Below.refl _ w7) hb8)
  clear hb8 hw7
  by_cases he : e = 0
  · subst he
    go_wp2_with fail
    refine (HNC.out f w8).mono ?_
    rintro e9 w9 ⟨rfl, hb9⟩
    have HB9 := Lib.hid (below_step HB8.out hb9)
    clear hb9
    by_cases hf : f = 0
    · subst hf
      go_wp2_with fail
      refine (HNC.out g w9).mono ?_
      rintro e10 w10 ⟨rfl, hb10⟩
      have HB10 := Lib.hid (below_step HB9.out hb10)
      clear hb10
      by_cases hg : g = 0
      · subst hg
        obtain ⟨hy, hz⟩ : y = x ∧ z = un bangP x := by
          rcases HCS.out with h | ⟨_, _, h1, h2⟩ | ⟨h, _⟩
          · exact absurd rfl h
          · exact ⟨h1, h2⟩
          · rcases h with h | h
            · exact absurd rfl h
            · exact absurd rfl h
        subst hy
        subst hz
        have HCT := Lib.hid (fun W hW => same_calls y A A4 c c4 W _ _ (((HS7.out.bel HB10.out)).bel hW) (((HU7.out.bel HB10.out)).bel hW))
        obtain ⟨ad, A1, c1, hAe, hS1, x0, x1, x2, x3⟩ := (HV7.out.bel HB10.out).kid (j := 0) (k := y) rfl
        subst hAe
        have HV := Lib.hid (HV7.out.bel HB10.out)
        have HCK := Lib.hid (fun W hW => same_calls y A1 A c1 c W _ _ (hS1.bel hW) (((HS7.out.bel HB10.out)).bel hW))
        obtain ⟨q0, q1, q2, q3, q4, q5, q6, q7⟩ := (HX7.out.bel HB10.out).all
        obtain ⟨p0, p1, p2, p3, p4, p5, p6, p7⟩ := (HY7.out.bel HB10.out).all
        obtain ⟨z0, z1, z2, z3, z4, z5, z6, z7⟩ := (HZ7.out.bel HB10.out).all
        have mixed : Tryd.prog.follows Departure.mixedOrders = true := by kernel_rfl
        have late : Tryd.prog.follows Departure.lateStores = true := by kernel_rfl
        replace x0 : w10.cell? ad = some (.string y.op) := x0
        replace x1 : w10.cell? ⟨ad.block, ad.off + 1, none⟩ = some (.string y.name) := x1
        replace x2 : w10.cell? ⟨ad.block, ad.off + 2, none⟩ = some (.int .i64 y.num) := x2
        replace x3 : w10.cell? ⟨ad.block, ad.off + 3, none⟩ = some (.slice A1 y.kids.length c1) := x3
        clear hS1
        go_wp2_with fail
        go_region_law (first
          | (go_simp; go_at_call 11; (with_reducible refine (HCT.out _ (by first | exact Below.refl _ _ | exact (Below.refl _ _).drew)).mono ?_); rintro e11 w11 ⟨rfl, hb11⟩
             have HB11 := Lib.hid (below_step (below_drew (Below.refl _ w10)) hb11)
             obtain ⟨q10, q11, q12, q13, q14, q15, q16, q17⟩ := ((HX7.out.bel HB10.out).bel HB11.out).all
             obtain ⟨z10, z11, z12, z13, z14, z15, z16, z17⟩ := ((HZ7.out.bel HB10.out).bel HB11.out).all
             replace z10 : w11.cell? ⟨w6.heap.size, 0, none⟩ = some (.string ⟨#[33]⟩) := z10
             replace z13 : w11.cell? ⟨w6.heap.size, 3, none⟩ = some (.slice (some ad) 1 c6) := z13
             have x10 := cell_kept HB11.out x0
             have x11 := cell_kept HB11.out x1
             have x12 := cell_kept HB11.out x2
             have x13 := cell_kept HB11.out x3
             dsimp only)
          | (go_simp; go_at_call 11; (with_reducible refine (HCK.out _ HB11.out).mono ?_); rintro e12 w12 ⟨rfl, hb12⟩; dsimp only)
          | (go_simp; trace_state; fail))
        all_goals (
          have HB13 := Lib.hid (below_step HB7.out (below_step HB10.out (below_step HB11.out hb12)))
          go_wp2_with fail
          go_ret
          exact ⟨rfl, HB13.out⟩)
      · have hg1 : ((g : Int) == 0) = false := beq_eq_false_iff_ne.2 (by omega)
        have hg2 : ((g : Int) != 0) = true := bne_iff_ne.2 (by omega)
        go_wp2_with fail
        refine (HNC.out 0 w10).mono ?_
        rintro e11 w11 ⟨rfl, hb11⟩
        have HB11 := Lib.hid (below_step HB10.out hb11)
        clear hb11
        go_wp2_with fail
        refine (HBC.out w11).mono ?_
        rintro e12 w12 ⟨rfl, hb12⟩
        have HB12 := Lib.hid (below_step HB11.out hb12)
        clear hb12
        cases hbl : bl with
        | true =>
          subst hbl
          go_wp2_with fail
          go_ret
          exact ⟨rfl, below_step HB7.out HB12.out⟩
        | false =>
          subst hbl
          go_wp2_with fail
          refine (HNC.out 0 w12).mono ?_
          rintro e13 w13 ⟨rfl, hb13⟩
          have HB13 := Lib.hid (below_step HB12.out hb13)
          clear hb13
          go_wp2_with fail
          refine (HNC.out g w13).mono ?_
          rintro e14 w14 ⟨rfl, hb14⟩
          have HB14 := Lib.hid (below_step HB13.out hb14)
          clear hb14
          by_cases hg42 : g = 42
          · subst hg42
            go_wp2_with fail
            go_ret
            exact ⟨rfl, below_step HB7.out HB14.out⟩
          · have hg43 : ((g : Int) == 42) = false := beq_eq_false_iff_ne.2 (by omega)
            have hlen : 8192 < a0.size := by
              have hnb := HBL.out
              rcases HCS.out with h | ⟨h1, h2, _, _⟩ | ⟨_, h | h | h | h⟩
              · exact absurd rfl h
              · omega
              · exact absurd (hnb h) (by decide)
              · omega
              · omega
              · exact h
            have hl1 : decide ((8192 : Int) < (a0.size : Int)) = true := decide_eq_true (by omega)
            have hl2 : decide (8192 < a0.size) = true := decide_eq_true hlen
            go_wp2_with fail
            go_ret
            exact ⟨rfl, below_step HB7.out HB14.out⟩
    · have hf1 : ((f : Int) == 0) = false := beq_eq_false_iff_ne.2 (by omega)
      have hf2 : ((f : Int) != 0) = true := bne_iff_ne.2 (by omega)
      go_wp2_with fail
      refine (HNC.out 0 w9).mono ?_
      rintro e10 w10 ⟨rfl, hb10⟩
      have HB10 := Lib.hid (below_step HB9.out hb10)
      clear hb10
      go_wp2_with fail
      refine (HBC.out w10).mono ?_
      rintro e11 w11 ⟨rfl, hb11⟩
      have HB11 := Lib.hid (below_step HB10.out hb11)
      clear hb11
      cases hbl : bl with
      | true =>
        subst hbl
        go_wp2_with fail
        go_ret
        exact ⟨rfl, below_step HB7.out HB11.out⟩
      | false =>
        subst hbl
        go_wp2_with fail
        refine (HNC.out f w11).mono ?_
        rintro e12 w12 ⟨rfl, hb12⟩
        have HB12 := Lib.hid (below_step HB11.out hb12)
        clear hb12
        by_cases hf42 : f = 42
        · subst hf42
          go_wp2_with fail
          go_ret
          exact ⟨rfl, below_step HB7.out HB12.out⟩
        · have hf43 : ((f : Int) == 42) = false := beq_eq_false_iff_ne.2 (by omega)
          go_wp2_with fail
          refine (HNC.out g w12).mono ?_
          rintro e13 w13 ⟨rfl, hb13⟩
          have HB13 := Lib.hid (below_step HB12.out hb13)
          clear hb13
          by_cases hg42 : g = 42
          · subst hg42
            go_wp2_with fail
            go_ret
            exact ⟨rfl, below_step HB7.out HB13.out⟩
          · have hg43 : ((g : Int) == 42) = false := beq_eq_false_iff_ne.2 (by omega)
            have hlen : 8192 < a0.size := by
              have hnb := HBL.out
              rcases HCS.out with h | ⟨h1, h2, _, _⟩ | ⟨_, h | h | h | h⟩
              · exact absurd rfl h
              · omega
              · exact absurd (hnb h) (by decide)
              · omega
              · omega
              · exact h
            have hl1 : decide ((8192 : Int) < (a0.size : Int)) = true := decide_eq_true (by omega)
            have hl2 : decide (8192 < a0.size) = true := decide_eq_true hlen
            go_wp2_with fail
            go_ret
            exact ⟨rfl, below_step HB7.out HB13.out⟩
  · have he1 : ((e : Int) == 0) = false := beq_eq_false_iff_ne.2 (by omega)
    have he2 : ((e : Int) != 0) = true := bne_iff_ne.2 (by omega)
    go_wp2_with fail
    refine (HNC.out e w8).mono ?_
    rintro e9 w9 ⟨rfl, hb9⟩
    have HB9 := Lib.hid (below_step HB7.out (below_step HB8.out hb9))
    clear hb9
    go_wp2_with fail
    go_ret
    exact ⟨rfl, HB9.out⟩
end Go.Proofs.YtlbgnpllbogkeaaDoor.Ext
namespace Go.Proofs.YtlbgnpllbogkeaaDoor.P
end Go.Proofs.YtlbgnpllbogkeaaDoor.P

/- Proved: cowrielaw05.ArithMay's call is true. Conditions: a text of at most 2 to the 21 octets; the table of blanks holds what its initialiser lays. -/
import Derived.Test.YtlbgnpllbogkeaaDoorVmArMayA
set_option linter.unusedVariables false
set_option linter.unusedSimpArgs false
namespace Go.Proofs.YtlbgnpllbogkeaaDoor.Ext
open Go.RowKit Go.Proofs.YtlbgnpllbogkeaaDoorW.PrintWords
def cowrielaw05_ArithMay.f (a0 : ByteArray) (a1 : Bool) : Option Bool := if a0.size ≤ 2097152 then some true else none
theorem SumR.zero (w : World) (ok : Nat → Prop) : SumR w ok zeroE [.string em, .string em, .int .i64 0, .slice none 0 0] := SumR.leaf w ok em em 0
set_option maxHeartbeats 8000000 in
set_option maxRecDepth 100000 in
theorem cowrielaw05_ArithMay.calls (a0 : ByteArray) (a1 : Bool) (r : Bool) (w : World) (hT : Tab w) (h : cowrielaw05_ArithMay.f a0 a1 = some r) :
    Calls Tryd.prog 5 #[.string a0, .bool a1] w fun e w' => e = .returned (.bool r) ∧ Below w.heap.size w w' := by
  unfold cowrielaw05_ArithMay.f at h
  split at h
  case isFalse => cases h
  rename_i hsz
  obtain rfl := Option.some.inj h
  have HAL := Lib.hid (alive_calls w hT)
  have HPC := Lib.hid (fun W hT => Parse_calls a0 a1 W hT (by omega))
  have HNC := Lib.hid num_calls
  have HT := Lib.hid hT
  have HMAY := Lib.hid (parse_may a0 a1)
  have HPL := Lib.hid (parse_place a0 a1)
  clear h hT
  go_enter Tryd.func5, Tryd.ntmps5
  go_wp2_with fail
  refine HAL.out.mono ?_
  rintro e w1 ⟨rfl, hb1⟩
  have HB1 := Lib.hid hb1
  have HT1 := Lib.hid (HT.out.below hb1)
  clear hb1
  go_wp2_with fail
  refine (HPC.out w1 HT1.out).mono ?_
  rintro e w2 ⟨A, c, rfl, hS2, hb2⟩
  obtain ⟨R, hR⟩ : ∃ R, parseS a0 a1 = R := ⟨_, rfl⟩
  rw [hR] at HMAY HPL hS2 ⊢
  obtain ⟨x, a, e⟩ := R
  dsimp only at HMAY HPL hS2 ⊢
  have hbo := (Below.refl _ w2).alloc (Nat.le_refl _) (oneO x A c)
  have HS3 := Lib.hid (hS2.bel hbo)
  have HX3 := Lib.hid (Bx.new w2 #[.string x.op, .string x.name, .int .i64 x.num, .slice A x.kids.length c])
  have HB3 := Lib.hid (below_step HB1.out (below_step hb2 hbo))
  have HT3 := Lib.hid ((HT1.out.below hb2).below hbo)
  clear hS2 hbo hb2 hR
  go_wp2_with fail
  obtain ⟨w3, hw3⟩ : ∃ w3, w3 = w2.alloc (oneO x A c) := ⟨_, rfl⟩
  rw [← hw3] at HS3 HX3 HB3 HT3
  rw [show w2.alloc (.cells #[.string x.op, .string x.name, .int .i64 x.num, .slice A x.kids.length c] 25) = w3 from hw3.symm]
  refine (HNC.out e w3).mono ?_
  rintro e8 w4 ⟨rfl, hb4⟩
  have HB4 := Lib.hid (below_step (Below.refl _ w3) hb4)
  clear hb4 hw3
  by_cases he : e = 0
  · subst he
    obtain ⟨hn, hd, hall, hpl⟩ := HMAY.out.1 rfl
    subst hn
    obtain ⟨q0, q1, q2, q3, q4, q5, q6, q7⟩ := (HX3.out.bel HB4.out).all
    have hck : checkF x = 0 := by
      unfold checkF
      rw [if_neg (by omega), if_pos hall]
    have HCK := Lib.hid (Check_calls x A c w4 _ (HS3.out.bel HB4.out) (allF_sz x hall) (HT3.out.below HB4.out))
    rw [hck] at HCK
    have haa : ((a0.size : Int) == (a0.size : Int)) = true := beq_iff_eq.2 rfl
    have HNC0 := Lib.hid (HNC.out 0)
    clear hck hall hd
    cases a1 with
    | true =>
      clear hpl
      go_wp2_with fail
      refine HCK.out.mono ?_
      rintro e5 w5 ⟨rfl, hb5⟩
      have HB5 := Lib.hid (below_step HB4.out hb5)
      clear hb5
      go_wp2_with fail
      refine (HNC0.out w5).mono ?_
      rintro e6 w6 ⟨rfl, hb6⟩
      have HB6 := Lib.hid (below_step HB5.out hb6)
      clear hb6
      go_wp2_with fail
      go_ret
      exact ⟨rfl, below_step HB3.out HB6.out⟩
    | false =>
      have hpt : plainF x = true := by
        rcases hpl with h | h
        · cases h
        · exact h
      clear hpl
      go_wp2_with fail
      refine HCK.out.mono ?_
      rintro e5 w5 ⟨rfl, hb5⟩
      have HB5 := Lib.hid (below_step HB4.out hb5)
      clear hb5
      go_wp2_with fail
      refine (HNC0.out w5).mono ?_
      rintro e6 w6 ⟨rfl, hb6⟩
      have HB6 := Lib.hid (below_step HB5.out hb6)
      clear hb6
      obtain ⟨v0, v1, v2, v3, v4, v5, v6, v7⟩ := (HX3.out.bel HB6.out).all
      have HPN := Lib.hid (Plain_calls x A c w6 _ (HS3.out.bel HB6.out) (HT3.out.below HB6.out))
      rw [hpt] at HPN
      clear hpt q0 q1 q2 q3 q4 q5 q6 q7
      go_wp2_with fail
      refine HPN.out.mono ?_
      rintro e7 w7 ⟨rfl, hb7⟩
      have HB7 := Lib.hid (below_step HB6.out hb7)
      clear hb7
      go_wp2_with fail
      go_ret
      exact ⟨rfl, below_step HB3.out HB7.out⟩
  · have he1 : ((e : Int) == 0) = false := beq_eq_false_iff_ne.2 (by omega)
    have he2 : ((e : Int) != 0) = true := bne_iff_ne.2 (by omega)
    have hx := HMAY.out.2 he
    subst hx
    have ha0 : decide ((0 : Int) ≤ (a : Int)) = true := decide_eq_true (by omega)
    have ha1 : decide ((a : Int) ≤ (a0.size : Int)) = true := by have := HPL.out; exact decide_eq_true (by omega)
    have ha2 : decide (a ≤ a0.size) = true := by have := HPL.out; exact decide_eq_true (by omega)
    obtain ⟨q0, q1, q2, q3, q4, q5, q6, q7⟩ := (HX3.out.bel HB4.out).all
    have HSM := Lib.hid (fun W (hW : Below w4.heap.size w4 W) => same_calls zeroE A none c 0 W _ (fun _ => True) ((HS3.out.bel HB4.out).bel hW) (SumR.zero W _))
    clear he
    go_wp2_with fail
    refine (HSM.out _ (by first | exact Below.refl _ _ | exact (Below.refl _ _).alloc (Nat.le_refl _) _)).mono ?_
    rintro e5 w5 ⟨rfl, hb5⟩
    have HB5 := Lib.hid hb5
    clear hb5
    go_wp2_with fail
    go_ret
    exact ⟨rfl, by first | exact below_step HB3.out (below_step HB4.out HB5.out) | exact below_step HB3.out (below_step HB4.out (below_step ((Below.refl _ _).alloc (Nat.le_refl _) _) HB5.out))⟩
end Go.Proofs.YtlbgnpllbogkeaaDoor.Ext
namespace Go.Proofs.YtlbgnpllbogkeaaDoor.P
end Go.Proofs.YtlbgnpllbogkeaaDoor.P

/- Proved: cowrielaw05.ArithBlanks' call is true. Conditions: a text of at most 2 to the 21 octets; the table of blanks holds what its initialiser lays. -/
import Derived.Test.YtlbgnpllbogkeaaDoorVbArPlace
import Derived.Test.YtlbgnpllbogkeaaDoorVbArAlive
set_option linter.unusedVariables false
set_option linter.unusedSimpArgs false
namespace Go.Proofs.YtlbgnpllbogkeaaDoor.Ext
open Go.RowKit Go.Proofs.YtlbgnpllbogkeaaDoorW.PrintWords
def nineT : ByteArray := ⟨#[32, 9, 10, 32, 9, 10, 32, 9, 10]⟩
theorem nine_blank (m : Nat) : ∀ c ∈ (nineT.extract 0 m).data.toList, blankB c = true := by
  intro c hc
  have h : c ∈ nineT.data.toList := by
    rw [ByteArray.data_extract, Array.toList_extract, List.extract_eq_take_drop, List.drop_zero] at hc
    exact List.mem_of_mem_take hc
  have key : ∀ c ∈ nineT.data.toList, blankB c = true := by decide
  exact key c h
theorem tmod9 (a : Int) : -9 < a.tmod 9 ∧ a.tmod 9 < 9 := ⟨Int.lt_tmod_of_pos a (by decide), Int.tmod_lt_of_pos a (by decide)⟩
theorem mod_some (a : Int) : ∃ m : Nat, (a.tmod 9 + 9).tmod 9 = (m : Int) ∧ m ≤ 8 := by
  have h1 := tmod9 a
  have h2 := tmod9 (a.tmod 9 + 9)
  have h3 : 0 ≤ (a.tmod 9 + 9).tmod 9 := Int.tmod_nonneg 9 (by omega)
  exact ⟨((a.tmod 9 + 9).tmod 9).toNat, by omega, by omega⟩
theorem mod_wrap (a : Int) : wrap64 (a.tmod 9 + 9) = a.tmod 9 + 9 := by
  have h1 := tmod9 a
  unfold wrap64
  omega
theorem wrap_ab {a m b L : Nat} (h : a + m = b) (ha : a ≤ L) (hL : L ≤ 16000) (hm : m ≤ 8) : wrap64 ((a : Int) + (m : Int)) = (b : Int) := by unfold wrap64; omega
def cowrielaw05_ArithBlanks.f (a0 : ByteArray) (a1 : Bool) (a2 : Int) : Option Bool := if a0.size ≤ 2097152 then some true else none
set_option maxHeartbeats 8000000 in
set_option maxRecDepth 100000 in
theorem cowrielaw05_ArithBlanks.calls (a0 : ByteArray) (a1 : Bool) (a2 : Int) (r : Bool) (w : World) (hT : Tab w) (h : cowrielaw05_ArithBlanks.f a0 a1 a2 = some r) :
    Calls Tryd.prog 4 #[.string a0, .bool a1, .int .i64 a2] w fun e w' => e = .returned (.bool r) ∧ Below w.heap.size w w' := by
  unfold cowrielaw05_ArithBlanks.f at h
  split at h
  case isFalse => cases h
  rename_i hsz
  obtain rfl := Option.some.inj h
  have HAL := Lib.hid (alive_calls w hT)
  have HPC := Lib.hid (fun (s : ByteArray) W hT hs => Parse_calls s a1 W hT hs)
  have HT := Lib.hid hT
  have HSZ := Lib.hid hsz
  obtain ⟨m, hm, hm8⟩ := mod_some a2
  have hw1 := mod_wrap a2
  have HM := Lib.hid hm
  have HM8 := Lib.hid hm8
  clear h hsz hT
  go_enter Tryd.func4, Tryd.ntmps4
  go_wp2_with fail
  refine HAL.out.mono ?_
  rintro e w1 ⟨rfl, hb1⟩
  have HB1 := Lib.hid hb1
  have HT1 := Lib.hid (HT.out.below hb1)
  clear hb1
  go_wp2_with fail
  refine (HPC.out a0 w1 HT1.out (by have := HSZ.out; omega)).mono ?_
  rintro e w2 ⟨A, c, rfl, hS2, hb2⟩
  have hpl := parse_place a0 a1
  have hbs := fun h1 h2 => blanks_same (nineT.extract 0 m) a0 a1 (nine_blank m) h1 h2
  have hns : (nineT.extract 0 m).size = m := by
    rw [ByteArray.size_extract]
    have : nineT.size = 9 := rfl
    omega
  rw [hns] at hbs
  have HNS := Lib.hid hns
  have HBS := Lib.hid hbs
  obtain ⟨R, hR⟩ : ∃ R, parseS a0 a1 = R := ⟨_, rfl⟩
  rw [hR] at hpl HBS hS2 ⊢
  obtain ⟨x, a, e⟩ := R
  dsimp only at hpl HBS hS2 ⊢
  have hbo := (Below.refl _ w2).alloc (Nat.le_refl _) (oneO x A c)
  have HS3 := Lib.hid (hS2.bel hbo)
  have HX3 := Lib.hid (Bx.new w2 #[.string x.op, .string x.name, .int .i64 x.num, .slice A x.kids.length c])
  have HB3 := Lib.hid (below_step HB1.out (below_step hb2 hbo))
  have HT3 := Lib.hid ((HT1.out.below hb2).below hbo)
  have HPL := Lib.hid hpl
  have hm9 : (m : Int) ≤ 9 := by omega
  have hm0 : (0 : Int) ≤ (m : Int) := by omega
  have hcat : (nineT.extract 0 m).size + a0.size ≤ 9223372036854775807 := by rw [hns]; have := HSZ.out; omega
  have hcat2 : min m 9 + a0.size ≤ 9223372036854775807 := by have := HSZ.out; omega
  have hsm : ∀ y : E, SameC y := same_calls
  have HSM := Lib.hid hsm
  have hcs : (nineT.extract 0 m ++ a0).size ≤ 9223372036854775807 := by rw [app_size, hns]; have := HSZ.out; omega
  have HCS := Lib.hid hcs
  clear hbs hns hS2 hbo hb2 hpl hR hsm hcs
  by_cases hbig : 16000 < a0.size
  · have hb1 : decide ((16000 : Int) < (a0.size : Int)) = true := decide_eq_true (by omega)
    have hb2 : decide (16000 < a0.size) = true := decide_eq_true hbig
    clear hbig HBS
    go_wp2_with fail
    refine (HPC.out (nineT.extract 0 m ++ a0) _ HT3.out HCS.out).mono ?_
    rintro e4 w4 ⟨A4, c4, rfl, hS4, hb4⟩
    obtain ⟨R, hR⟩ : ∃ R, parseS (nineT.extract 0 m ++ a0) a1 = R := ⟨_, rfl⟩
    rw [hR]
    obtain ⟨y, b, f⟩ := R
    dsimp only
    have HB5 := Lib.hid (below_step HB3.out (below_step hb4 ((Below.refl _ w4).alloc (Nat.le_refl _) (oneO y A4 c4))))
    clear hb4 hS4 hR
    go_wp2_with fail
    go_ret
    exact ⟨rfl, HB5.out⟩
  · have hb1 : decide ((16000 : Int) < (a0.size : Int)) = false := decide_eq_false (by omega)
    have hb2 : decide (16000 < a0.size) = false := decide_eq_false hbig
    have hbl := HBS.out (by omega) HM8.out
    obtain ⟨b, hb⟩ : ∃ b, a + m = b := ⟨_, rfl⟩
    have hwb : wrap64 ((a : Int) + (m : Int)) = (b : Int) := wrap_ab hb HPL.out (by omega) HM8.out
    rw [hb] at hbl
    have HBL := Lib.hid hbl
    clear hbig HBS hbl hb
    go_wp2_with fail
    refine (HPC.out (nineT.extract 0 m ++ a0) _ HT3.out HCS.out).mono ?_
    rintro e4 w4 ⟨A4, c4, rfl, hS4, hb4⟩
    rw [HBL.out] at hS4 ⊢
    dsimp only at hS4 ⊢
    have hbo := (Below.refl _ w4).alloc (Nat.le_refl _) (oneO x A4 c4)
    have HB5 := Lib.hid (below_step HB3.out (below_step hb4 hbo))
    have HX5 := Lib.hid ((HX3.out.bel hb4).bel hbo)
    have HY5 := Lib.hid (Bx.new w4 #[.string x.op, .string x.name, .int .i64 x.num, .slice A4 x.kids.length c4])
    have HC := Lib.hid (HSM.out x A A4 c c4 _ _ _ ((HS3.out.bel hb4).bel hbo) (hS4.bel hbo))
    obtain ⟨q0, q1, q2, q3, q4, q5, q6, q7⟩ := HX5.out.all
    obtain ⟨p0, p1, p2, p3, p4, p5, p6, p7⟩ := HY5.out.all
    clear hb4 hS4 hbo
    go_wp2_with fail
    refine HC.out.mono ?_
    rintro e6 w6 ⟨rfl, hb6⟩
    have HB6 := Lib.hid (below_step HB5.out hb6)
    clear hb6
    go_wp2_with fail
    go_ret
    exact ⟨rfl, HB6.out⟩
end Go.Proofs.YtlbgnpllbogkeaaDoor.Ext
namespace Go.Proofs.YtlbgnpllbogkeaaDoor.P
end Go.Proofs.YtlbgnpllbogkeaaDoor.P

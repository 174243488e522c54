/- Proved: arith's parser: level's call by what is within it. -/
import Derived.Test.YtlbgnpllbogkeaaDoorVkArW3
set_option linter.unusedVariables false
set_option linter.unusedSimpArgs false
namespace Go.Proofs.YtlbgnpllbogkeaaDoor.Ext
open Go.RowKit Go.Proofs.YtlbgnpllbogkeaaDoorW.PrintWords
def levT : Nat → ByteArray
  | 0 => ⟨#[124, 124]⟩
  | 1 => ⟨#[38, 38]⟩
  | 2 => ⟨#[124]⟩
  | 3 => ⟨#[94]⟩
  | 4 => ⟨#[38]⟩
  | 5 => ⟨#[61, 61, 32, 33, 61]⟩
  | 6 => ⟨#[60, 61, 32, 62, 61, 32, 60, 32, 62]⟩
  | 7 => ⟨#[60, 60, 32, 62, 62]⟩
  | 8 => ⟨#[43, 32, 45]⟩
  | _ => ⟨#[42, 32, 47, 32, 37]⟩
theorem set_level : ∀ n, n < 10 → SetOf (levT n) (levelsL n)
  | 0, _ => ⟨by decide, by decide, by decide, by decide, by decide⟩
  | 1, _ => ⟨by decide, by decide, by decide, by decide, by decide⟩
  | 2, _ => ⟨by decide, by decide, by decide, by decide, by decide⟩
  | 3, _ => ⟨by decide, by decide, by decide, by decide, by decide⟩
  | 4, _ => ⟨by decide, by decide, by decide, by decide, by decide⟩
  | 5, _ => ⟨by decide, by decide, by decide, by decide, by decide⟩
  | 6, _ => ⟨by decide, by decide, by decide, by decide, by decide⟩
  | 7, _ => ⟨by decide, by decide, by decide, by decide, by decide⟩
  | 8, _ => ⟨by decide, by decide, by decide, by decide, by decide⟩
  | 9, _ => ⟨by decide, by decide, by decide, by decide, by decide⟩
  | n + 10, h => absurd h (by omega)
def levC : Array Value := #[.string ⟨#[124, 124]⟩, .string ⟨#[38, 38]⟩, .string ⟨#[124]⟩, .string ⟨#[94]⟩, .string ⟨#[38]⟩, .string ⟨#[61, 61, 32, 33, 61]⟩, .string ⟨#[60, 61, 32, 62, 61, 32, 60, 32, 62]⟩, .string ⟨#[60, 60, 32, 62, 62]⟩, .string ⟨#[43, 32, 45]⟩, .string ⟨#[42, 32, 47, 32, 37]⟩]
theorem levC_at : ∀ n, n < 10 → levC[n]? = some (.string (levT n))
  | 0, _ => rfl
  | 1, _ => rfl
  | 2, _ => rfl
  | 3, _ => rfl
  | 4, _ => rfl
  | 5, _ => rfl
  | 6, _ => rfl
  | 7, _ => rfl
  | 8, _ => rfl
  | 9, _ => rfl
  | n + 10, h => absurd h (by omega)
theorem levels_calls (w : World) : Calls Tryd.prog 84 #[] w fun e w' => e = .returned (.slice (some ⟨w.heap.size, 0, none⟩) 10 10) ∧ w' = w.alloc (.cells levC 9) := by
  go_enter Tryd.func84, Tryd.ntmps84
  go_wp2
  go_ret
  exact ⟨rfl, rfl⟩
section
variable {nx : Nat → Tok} {lit : ByteArray → Int} {pb : Nat} {s : ByteArray} {bash : Bool} {t : Tok} {d k : Nat}
/-- The boxes of level. -/
structure LvAt (w : World) (pb : Nat) (s : ByteArray) (bash : Bool) (t : Tok) (d n : Nat) (w0 : World) : Prop where
  p : PB w0 pb s bash t d
  g : w.grownBy w0 (some pb)
  bp : Bk w0 w.heap.size 42 #[parserV pb]
  bn : Bk w0 (w.heap.size + 1) 3 #[.int .i64 n]
  br : Bx w0 (w.heap.size + 1 + 1) #[.string ⟨#[]⟩, .string ⟨#[]⟩, .int .i64 0, .slice none 0 0]
theorem LvAt.bel {w w0 w1 : World} {n : Nat} (h : LvAt w pb s bash t d n w0) (hb : Below w0.heap.size w0 w1) : LvAt w pb s bash t d n w1 :=
  ⟨h.p.bel hb, grown_trans h.g (grown_of_below hb _), h.bp.bel hb, h.bn.bel hb, h.br.bel hb⟩
theorem lv_start (w : World) (n : Nat) (h : PB w pb s bash t d) : LvAt w pb s bash t d n (((w.alloc (.cells #[parserV pb] 42)).alloc (.cells #[.int .i64 n] 3)).alloc (.cells #[.string ⟨#[]⟩, .string ⟨#[]⟩, .int .i64 0, .slice none 0 0] 25)) := by
  have h1 := (Below.refl _ w).alloc (Nat.le_refl _) (.cells #[parserV pb] 42)
  have h2 := (Below.refl _ (w.alloc (.cells #[parserV pb] 42))).alloc (Nat.le_refl _) (.cells #[.int .i64 n] 3)
  have h3 := (Below.refl _ ((w.alloc (.cells #[parserV pb] 42)).alloc (.cells #[.int .i64 n] 3))).alloc (Nat.le_refl _) (.cells #[.string ⟨#[]⟩, .string ⟨#[]⟩, .int .i64 0, .slice none 0 0] 25)
  have e1 : (w.alloc (.cells #[parserV pb] 42)).heap.size = w.heap.size + 1 := by simp
  have e2 : ((w.alloc (.cells #[parserV pb] 42)).alloc (.cells #[.int .i64 n] 3)).heap.size = w.heap.size + 1 + 1 := by simp
  have b2 := Bk.new (w.alloc (.cells #[parserV pb] 42)) 3 #[.int .i64 n]
  have b3 := Bx.new ((w.alloc (.cells #[parserV pb] 42)).alloc (.cells #[.int .i64 n] 3)) #[.string ⟨#[]⟩, .string ⟨#[]⟩, .int .i64 0, .slice none 0 0]
  rw [e1] at b2
  rw [e2] at b3
  exact ⟨((h.bel h1).bel h2).bel h3, grown_trans (grown_trans (grown_of_below h1 _) (grown_of_below h2 _)) (grown_of_below h3 _), ((Bk.new w _ _).bel h2).bel h3, b2.bel h3, b3⟩
theorem lv_keep {w w0 : World} {n : Nat} (h : LvAt w pb s bash t d n w0) : w0.cell? ⟨w.heap.size, 0, none⟩ = some (parserV pb) ∧ w0.cell? ⟨w.heap.size + 1, 0, none⟩ = some (.int .i64 n) := ⟨h.bp.c 0, h.bn.c 0⟩
set_option maxHeartbeats 2000000 in
/-- level's closure. -/
theorem level1_calls (n : Nat) (hn9 : n < 10) (ih : PC nx lit pb s bash k (.level (n + 1))) (d : Nat) (t : Tok) (w : World) (b1 b2 : Nat) (h : PB w pb s bash t d) (h1 : Bk w b1 42 #[parserV pb]) (h2 : Bk w b2 3 #[.int .i64 n]) (ho : parse nx lit k (.level (n + 1)) d t ≠ .out) :
    Calls Tryd.prog 86 #[.pointer (some ⟨b1, 0, none⟩), .pointer (some ⟨b2, 0, none⟩)] w (Tells pb s bash d w (parse nx lit k (.level (n + 1)) d t)) := by
  have hba := (Below.refl _ w).alloc (Nat.le_refl _) (.cells #[.string ⟨#[]⟩, .string ⟨#[]⟩, .int .i64 0, .slice none 0 0] 25)
  have y1 := (h1.bel hba).c 0
  have y2 := (h2.bel hba).c 0
  have hg0 := grown_of_below hba (some pb)
  have hB0 := Bx.new w #[.string ⟨#[]⟩, .string ⟨#[]⟩, .int .i64 0, .slice none 0 0]
  have HC := Lib.hid (ih d t _ (h.bel hba) ho)
  have hw : wrap64 ((n : Int) + 1) = ((n + 1 : Nat) : Int) := by unfold wrap64; omega
  obtain ⟨m, hm⟩ : ∃ m, n + 1 = m := ⟨_, rfl⟩
  rw [hm] at HC hw ho ⊢
  generalize parse nx lit k (.level m) d t = r at HC ho ⊢
  replace HC := Lib.hid (show Calls Tryd.prog 75 #[parserV pb, .int .i64 m] (w.alloc (.cells #[.string ⟨#[]⟩, .string ⟨#[]⟩, .int .i64 0, .slice none 0 0] 25)) (Tells pb s bash d (w.alloc (.cells #[.string ⟨#[]⟩, .string ⟨#[]⟩, .int .i64 0, .slice none 0 0] 25)) r) from HC.out)
  have HP := Lib.hid h
  have HG0 := Lib.hid hg0
  have HB0 := Lib.hid hB0
  clear h hg0 hB0 hba h1 h2 ih hm hn9
  go_enter Tryd.func86, Tryd.ntmps86
  go_wp2_with fail
  refine HC.out.mono ?_
  intro e w2 hs
  rcases Tells.or hs with ⟨a, c, rfl, rfl, hg1⟩ | ⟨x, t1, A, c, rfl, rfl, hS1, hp1, hg1⟩
  · have HG1 := Lib.hid hg1
    clear hg1 hs
    go_wp2_with fail
    exact ⟨rfl, rfl, grown_trans HG0.out HG1.out⟩
  · have hb1 := end_box HP.out (Nat.le_refl _) HB0.out hg1
    obtain ⟨z0, z1, z2, z3, z4, z5, z6, z7⟩ := hb1.all
    have HB1 := Lib.hid hb1
    have HE := Lib.hid (end_tells HP.out HG0.out (Nat.le_refl _) HB0.out.lt hS1 hp1 hg1)
    clear hg1 hs hp1 hS1 hb1
    go_wp2_with fail
    refine bodyPost_ret (results_cell_row rfl _ _ w.heap.size 25 #[.string x.op, .string x.name, .int .i64 x.num, .slice A x.kids.length c] (0, 0) _ rfl (HB1.out.set4 _ _ _ _) Tryd.underlying25 rfl (by kernel_rfl)) rfl ?_
    exact HE.out
set_option maxHeartbeats 2000000 in
theorem level_calls (hx : Nx nx s.size) (hn : NextC nx pb s bash) (hi : InC) (n : Nat) (hn10 : n ≤ 10) (ihp : PC nx lit pb s bash k .power) (ih : n < 10 → PC nx lit pb s bash k (.level (n + 1))) : PC nx lit pb s bash (k + 1) (.level n) := by
  intro d t w h hro
  rw [parse] at hro ⊢
  have HAT := Lib.hid (lv_start w n h)
  obtain ⟨w0, hw0⟩ : ∃ w0, w0 = ((w.alloc (.cells #[parserV pb] 42)).alloc (.cells #[.int .i64 n] 3)).alloc (.cells #[.string ⟨#[]⟩, .string ⟨#[]⟩, .int .i64 0, .slice none 0 0] 25) := ⟨_, rfl⟩
  rw [← hw0] at HAT
  have HW0 := Lib.hid hw0
  have HLV := Lib.hid levels_calls
  have mixed : Tryd.prog.follows Departure.mixedOrders = true := by kernel_rfl
  have HP := Lib.hid h
  clear hw0 h
  show Calls Tryd.prog 75 #[parserV pb, .int .i64 n] w _
  by_cases h10 : n = 10
  · rw [if_pos h10] at hro ⊢
    subst h10
    have HC := Lib.hid ihp
    obtain ⟨r, hr⟩ : ∃ r, parse nx lit k .power d t = r := ⟨_, rfl⟩
    rw [hr] at hro ⊢
    have HR := Lib.hid hr
    have HRO := Lib.hid hro
    clear ih ihp hr hro hx hn hi hn10
    go_enter Tryd.func75, Tryd.ntmps75
    go_wp2_with fail
    rw [show (((10 : Nat) : Int)) = (10 : Int) from rfl] at *
    rw [← HW0.out]
    obtain ⟨y0⟩ : w0.cell? ⟨w.heap.size + 1, 0, none⟩ = some (.int .i64 10) ∧ True := ⟨HAT.out.bn.c 0, trivial⟩
    go_region_held3 (fun w' => w'.cell? ⟨w.heap.size + 1, 0, none⟩ = some (.int .i64 10)) (first | (with_reducible exact y0) | (exact y0) | (exact ((HAT.out.bel (below_drew (Below.refl _ w0))).bel ((Below.refl _ _).alloc (Nat.le_refl _) _)).bn.c 0)) (first | (go_at_call 84; (with_reducible refine (HLV.out _).mono ?_); rintro e w3 ⟨rfl, rfl⟩; dsimp only))
    have hAT1 := (HAT.out.bel (below_drew (Below.refl _ w0))).bel ((Below.refl _ w0.drew).alloc (Nat.le_refl _) (.cells levC 9))
    generalize w0.drew.alloc (.cells levC 9) = w1 at hAT1 ⊢
    have y1 := hAT1.bp.c 0
    have HAT1 := Lib.hid hAT1
    have HCC := Lib.hid (HC.out d t w1 hAT1.p (by rw [HR.out]; exact HRO.out))
    rw [HR.out] at HCC
    clear hAT1 HC HR HRO y0
    go_wp2_with fail
    refine HCC.out.mono ?_
    intro e w2 hs
    rcases Tells.or hs with ⟨a, c, rfl, rfl, hg1⟩ | ⟨x, t1, A, c, rfl, rfl, hS1, hp1, hg1⟩
    · have HG1 := Lib.hid hg1
      clear hg1 hs
      go_wp2_with fail
      exact ⟨rfl, rfl, grown_trans HAT1.out.g HG1.out⟩
    · have hb1 := end_box HP.out (show w.heap.size ≤ w.heap.size + 1 + 1 by omega) HAT1.out.br hg1
      obtain ⟨z0, z1, z2, z3, z4, z5, z6, z7⟩ := hb1.all
      have HB1 := Lib.hid hb1
      have HE := Lib.hid (end_tells HP.out HAT1.out.g (show w.heap.size ≤ w.heap.size + 1 + 1 by omega) HAT1.out.br.lt hS1 hp1 hg1)
      clear hg1 hs hp1 hS1 hb1
      go_wp2_with fail
      refine bodyPost_ret (results_cell_row rfl _ _ (w.heap.size + 1 + 1) 25 #[.string x.op, .string x.name, .int .i64 x.num, .slice A x.kids.length c] (0, 0) _ rfl (HB1.out.set4 _ _ _ _) Tryd.underlying25 rfl (by kernel_rfl)) rfl ?_
      exact HE.out
  · rw [if_neg h10] at hro ⊢
    have hn9 : n < 10 := by omega
    have hne : ((n : Int) == 10) = false := beq_eq_false_iff_ne.2 (by omega)
    have hlev := levC_at n hn9
    have hset := set_level n hn9
    generalize levT n = lt at *
    have HSET := Lib.hid hset
    have HC := Lib.hid (ih hn9)
    obtain ⟨r, hr⟩ : ∃ r, (parse nx lit k (.level (n + 1)) d t).bind (leftGo nx (levelsL n) (parse nx lit k (.level (n + 1)) d) k) = r := ⟨_, rfl⟩
    rw [hr] at hro ⊢
    have HR := Lib.hid hr
    have HRO := Lib.hid hro
    have HX := Lib.hid hx
    have HN := Lib.hid hn
    have HI := Lib.hid hi
    have HL9 := Lib.hid hn9
    have HLEV := Lib.hid hlev
    clear ih ihp hr hro hx hn hi hn10 hset h10 hn9 hlev
    go_enter Tryd.func75, Tryd.ntmps75
    go_wp2_with fail
    rw [← HW0.out]
    obtain ⟨y0⟩ : w0.cell? ⟨w.heap.size + 1, 0, none⟩ = some (.int .i64 n) ∧ True := ⟨HAT.out.bn.c 0, trivial⟩
    go_region_held3 (fun w' => w'.cell? ⟨w.heap.size + 1, 0, none⟩ = some (.int .i64 n)) (first | (with_reducible exact y0) | (exact y0) | (exact ((HAT.out.bel (below_drew (Below.refl _ w0))).bel ((Below.refl _ _).alloc (Nat.le_refl _) _)).bn.c 0)) (first | (go_at_call 84; (with_reducible refine (HLV.out _).mono ?_); rintro e w3 ⟨rfl, rfl⟩; dsimp only))
    have hAT1 := (HAT.out.bel (below_drew (Below.refl _ w0))).bel ((Below.refl _ w0.drew).alloc (Nat.le_refl _) (.cells levC 9))
    generalize w0.drew.alloc (.cells levC 9) = w1 at hAT1 ⊢
    have HAT1 := Lib.hid hAT1
    have hLC : ∀ W, Below w1.heap.size w1 W → Calls Tryd.prog 32 #[parserV pb, .string lt, .func (.func 86) #[] #[.pointer (some ⟨w.heap.size, 0, none⟩), .pointer (some ⟨w.heap.size + 1, 0, none⟩)]] W (Tells pb s bash d W r) := by
      intro W hW
      have hA := hAT1.bel hW
      have hlt := HP.out.lt
      refine left_calls (d := d) HX.out HN.out HI.out lt (levelsL n) HSET.out 86 #[] #[.pointer (some ⟨w.heap.size, 0, none⟩), .pointer (some ⟨w.heap.size + 1, 0, none⟩)] (parse nx lit k (.level (n + 1)) d) k W hA.p (enters_of Tryd.func86 (by kernel_rfl) rfl) (fun t2 w2 hp hg ho => ?_) (fun t2 h2 => weak_parse HX.out k (.level (n + 1)) d t2 h2) r HR.out HRO.out
      exact level1_calls n HL9.out HC.out d t2 w2 w.heap.size (w.heap.size + 1) hp (hA.bp.grown hg (by omega)) (hA.bn.grown hg (by omega)) ho
    have HLC := Lib.hid hLC
    have hyl : (w1.alloc (.cells levC 9)).cell? ⟨w1.heap.size, n, none⟩ = some (.string lt) := by
      exact ((Bk.new w1 9 levC).c n).trans HLEV.out
    have HYL := Lib.hid hyl
    have hi0 : (0 : Int) ≤ (n : Int) := by omega
    have hi1 : (n : Int) < 10 := by have := HL9.out; omega
    have yp := hAT1.bp.c 0
    have yn := hAT1.bn.c 0
    clear hAT1 y0 hLC hyl
    go_wp2_with fail
    go_region_law (first | (go_simp; go_at_call 84; (with_reducible refine (HLV.out _).mono ?_); rintro e w3 ⟨rfl, rfl⟩; have yl := HYL.out; have yl2 := HLEV.out; obtain ⟨yp2, yn2⟩ := lv_keep (HAT1.out.bel ((Below.refl _ w1).alloc (Nat.le_refl _) (.cells levC 9))); dsimp only) | (go_simp; go_at_call 32; (with_reducible refine (HLC.out _ (by first | exact ((Below.refl _ w1).alloc (Nat.le_refl _) _).drew | exact ((below_drew (Below.refl _ w1)).alloc (Nat.le_refl _) _))).mono ?_); intro e w4 hs; rcases Tells.or hs with ⟨a, c, h1, rfl, hg1⟩ | ⟨x, t1, A, c, h1, rfl, hS1, hp1, hg1⟩; exact ⟨rfl, tells_faultr h1 (grown_trans HAT1.out.g (grown_trans (by first | exact grown_of_below ((Below.refl _ w1).alloc (Nat.le_refl _) _).drew _ | exact grown_of_below ((below_drew (Below.refl _ w1)).alloc (Nat.le_refl _) _) _) hg1))⟩; obtain ⟨z0, z1, z2, z3, z4, z5, z6, z7⟩ := (end_box HP.out (show w.heap.size ≤ w.heap.size + 1 + 1 by omega) (HAT1.out.bel ((Below.refl _ w1).alloc (Nat.le_refl _) (.cells levC 9)).drew).br hg1).all; dsimp only))
    all_goals (
      have hA1 := HAT1.out.bel ((Below.refl _ w1).alloc (Nat.le_refl _) (.cells levC 9)).drew
      have hb1 := end_box HP.out (show w.heap.size ≤ w.heap.size + 1 + 1 by omega) hA1.br hg1
      have HB1 := Lib.hid hb1
      have HE := Lib.hid (end_tells HP.out hA1.g (show w.heap.size ≤ w.heap.size + 1 + 1 by omega) hA1.br.lt hS1 hp1 hg1)
      have HH1 := Lib.hid h1
      clear hA1 hb1 hS1 hp1 hg1 h1 hs z0 z1 z2 z3 z4 z5 z6 z7
      go_wp2_with fail
      refine bodyPost_ret (results_cell_row rfl _ _ (w.heap.size + 1 + 1) 25 #[.string x.op, .string x.name, .int .i64 x.num, .slice A x.kids.length c] (0, 0) _ rfl (HB1.out.set4 _ _ _ _) Tryd.underlying25 rfl (by kernel_rfl)) rfl ?_
      rw [HH1.out]
      exact HE.out)
end
end Go.Proofs.YtlbgnpllbogkeaaDoor.Ext

/- cowrieref09.conversion where no flag stands behind the percent sign. -/
import Derived.Test.YtagdkbncfcdhdaaDoorVConvR0
set_option linter.unusedVariables false
namespace Go.Proofs.YtagdkbncfcdhdaaDoor.Ext
open Go.RowKit Go.Proofs.YtagdkbncfcdhdaaDoorW.PrintWords
set_option maxHeartbeats 8000000 in
set_option maxRecDepth 100000 in
theorem conv_none (x : ByteArray) (w : World) (R) (h1 : 1 < x.size) (h2 : bt x 1 ≠ 37) (h3 : bt x 1 ≠ 45) (h4 : bt x 1 ≠ 48) (hx9 : x.size ≤ 1000000000) (hQ : Q.printf_conversion.l0 17 (x.extract 1 x.size) ((1 - 1 : Nat) : Int) ((0 : Nat) : Int) 0 0 0 = some R) :
    Calls Tryd.prog 28 #[.string x] w fun e w' => e = .returned (aggOf (convOf R)) ∧ Below w.heap.size w w' := by
  have hx6 : ∀ h : 1 < x.size, ((x[1]'h).toNat : Int) = bt x 1 := bt_at x 1
  have g1 : decide (1 < (x.size : Int)) = true := decide_eq_true (by omega)
  have g2 : (1 < x.size) = True := eq_true h1
  have g3 : (1 < (x.size : Int)) = True := eq_true (by omega)
  have n1 : (bt x 1 == 37) = false := beq_eq_false_iff_ne.2 h2
  have n2 : (bt x 1 == 45) = false := beq_eq_false_iff_ne.2 h3
  have n3 : (bt x 1 == 48) = false := beq_eq_false_iff_ne.2 h4
  have hu := Tryd.underlying55
  have mixed : Tryd.prog.follows Departure.mixedOrders = true := by kernel_rfl
  go_enter Tryd.func28, Tryd.ntmps28
  go_wp2_with fail
  go_loopw [4] (fun i wr => ∃ (kq k sz : Nat) (wd : Int), i = .int .i64 (k : Nat) ∧ k ≤ 3 ∧ 1 ≤ sz ∧ sz ≤ x.size ∧ Q.printf_conversion.l0 kq (x.extract 1 x.size) ((sz - 1 : Nat) : Int) ((k : Nat) : Int) 0 0 wd = some R ∧ wr.heap[w.heap.size]? = some (.cells #[.int .u8 0, .bool false, .bool false, .int .i64 0, .int .i64 0] 55 (0, 0)) ∧ wr.heap[w.heap.size + 1]? = some (.cells #[.int .u8 0, .bool false, .bool false, .int .i64 wd, .int .i64 (sz : Nat)] 55 (0, 0)) ∧ Below w.heap.size w wr) (fun i _ => 3 - (intOf i).toNat)
  case atStart => exact ⟨17, 0, 1, 0, rfl, by decide, by decide, by omega, hQ, blk_alloc (blk_new w _) _, heap_alloc2_new w _ _, ((Below.refl _ w).alloc (Nat.le_refl _) _).alloc (by simp) _⟩
  case round =>
    obtain ⟨kq, k, sz, wd, rfl, hk3, hs1, hsx, hq, H0, H1, HB⟩ := hrel
    have z0 : wr.cell? ⟨w.heap.size + 1, 0, none⟩ = some (.int .u8 0) := (blk_cell H1 0).trans rfl
    have f0 := blk_frozen H1 0
    have z1 : wr.cell? ⟨w.heap.size + 1, 1, none⟩ = some (.bool false) := (blk_cell H1 1).trans rfl
    have f1 := blk_frozen H1 1
    have z2 : wr.cell? ⟨w.heap.size + 1, 2, none⟩ = some (.bool false) := (blk_cell H1 2).trans rfl
    have f2 := blk_frozen H1 2
    have z3 : wr.cell? ⟨w.heap.size + 1, 3, none⟩ = some (.int .i64 wd) := (blk_cell H1 3).trans rfl
    have f3 := blk_frozen H1 3
    have z4 : wr.cell? ⟨w.heap.size + 1, 4, none⟩ = some (.int .i64 (sz : Nat)) := (blk_cell H1 4).trans rfl
    have f4 := blk_frozen H1 4
    obtain ⟨n, rfl⟩ : ∃ n, sz = n + 1 := ⟨sz - 1, by omega⟩
    rw [Nat.add_sub_cancel] at hq
    have hy := y_size x (by omega)
    have hyn : n ≤ (x.extract 1 x.size).size := by omega
    by_cases hd : (k : Int) < 3 ∧ (n : Int) < ((x.extract 1 x.size).size : Int) ∧ 48 ≤ bt (x.extract 1 x.size) n ∧ bt (x.extract 1 x.size) n ≤ 57
    · obtain ⟨m, hm⟩ := q_next kq _ n k _ wd R hd (by omega) hq
      obtain ⟨d1, d2, d3, d4⟩ := hd
      have hlt : n + 1 < x.size := by omega
      rw [tail_y x n hlt] at d3 d4 hm
      have e1 : decide ((k : Int) < 3) = true := decide_eq_true d1
      have e2 : decide (((n + 1 : Nat) : Int) < (x.size : Int)) = true := decide_eq_true (by omega)
      have e3 : decide (48 ≤ bt x ((n + 1 : Nat) : Int)) = true := decide_eq_true d3
      have e4 : decide (bt x ((n + 1 : Nat) : Int) ≤ 57) = true := decide_eq_true d4
      have e7 : wrap64 (((n + 1 : Nat) : Int) + 1) = ((n + 1 + 1 : Nat) : Int) := by unfold wrap64; omega
      have e8 : wrap64 ((k : Int) + 1) = ((k + 1 : Nat) : Int) := by unfold wrap64; omega
      have hk4 : k < 3 := by omega
      have HH := Lib.hid (And.intro hm (And.intro H0 (And.intro H1 HB)))
      clear hm H0 H1 HB hq hQ hy hyn d2 d3 d4 d1
      generalize hni : ((n + 1 : Nat) : Int) = ni at *
      have e9 : (ni < (x.size : Int)) = True := eq_true (by omega)
      have e10 : ((0 : Int) ≤ ni) = True := eq_true (by omega)
      have e6 : (ni.toNat < x.size) = True := eq_true (by omega)
      generalize hbe : bt x ni = c at *
      have e5 : ∀ h : ni.toNat < x.size, ((x[ni.toNat]'h).toNat : Int) = c := fun h => (bt_at x ni h).trans hbe
      go_wp2_with fail
      go_region_o
      go_wp2_with fail
      go_roundw
      case rel =>
        obtain ⟨hm, H0, H1, HB⟩ := HH.out
        subst hni
        exact ⟨m, k + 1, n + 1 + 1, _, rfl, by omega, by omega, by omega, hm, blk_far (blk_far H0 (show w.heap.size ≠ w.heap.size + 1 by omega) _) (show w.heap.size ≠ w.heap.size + 1 by omega) _, blk_put (blk_put H1 3 _ rfl) 4 _ rfl, ((HB.setCell (p := ⟨w.heap.size + 1, 3, none⟩) (Nat.le_succ _) _).setCell (p := ⟨w.heap.size + 1, 4, none⟩) (Nat.le_succ _) _).drew⟩
      case measure =>
        simp only [intOf, Int.toNat_natCast]
        omega
    · have hT := q_exit kq _ n k _ wd R hyn hd hq
      have HH := Lib.hid (And.intro H0 (And.intro H1 HB))
      have hLT : (n : Int) < ((x.extract 1 x.size).size : Int) ↔ n + 1 < x.size := by omega
      have hTL : n + 1 < x.size → bt (x.extract 1 x.size) n = bt x ((n + 1 : Nat) : Int) := fun h => tail_y x n h
      have hTS : ¬ n + 1 < x.size → (n : Int) = ((x.extract 1 x.size).size : Int) := fun h => by omega
      have hTN : n + 1 < x.size → ¬ (n : Int) = ((x.extract 1 x.size).size : Int) := fun h => by omega
      clear H0 H1 HB hq hQ
      -- WHICH OF THE FOUR ENDS THE DIGITS
      have h4 : ¬ (k : Int) < 3 ∨ ((k : Int) < 3 ∧ ¬ n + 1 < x.size) ∨ ((k : Int) < 3 ∧ n + 1 < x.size ∧ ¬ 48 ≤ bt x ((n + 1 : Nat) : Int)) ∨ ((k : Int) < 3 ∧ n + 1 < x.size ∧ 48 ≤ bt x ((n + 1 : Nat) : Int) ∧ ¬ bt x ((n + 1 : Nat) : Int) ≤ 57) := by
        by_cases a1 : (k : Int) < 3
        · by_cases a2 : n + 1 < x.size
          · by_cases a3 : 48 ≤ bt x ((n + 1 : Nat) : Int)
            · by_cases a4 : bt x ((n + 1 : Nat) : Int) ≤ 57
              · exact absurd ⟨a1, hLT.2 a2, by rw [hTL a2]; exact a3, by rw [hTL a2]; exact a4⟩ hd
              · exact .inr (.inr (.inr ⟨a1, a2, a3, a4⟩))
            · exact .inr (.inr (.inl ⟨a1, a2, a3⟩))
          · exact .inr (.inl ⟨a1, a2⟩)
        · exact .inl a1
      clear hd hLT hy hyn
      generalize hni : ((n + 1 : Nat) : Int) = ni at *
      have e10 : ((0 : Int) ≤ ni) = True := eq_true (by omega)
      have e5 : ∀ h : ni.toNat < x.size, ((x[ni.toNat]'h).toNat : Int) = bt x ni := bt_at x ni
      rcases h4 with a1 | ⟨a1, a2⟩ | ⟨a1, a2, a3⟩ | ⟨a1, a2, a3, a4⟩
      · have e1 : decide ((k : Int) < 3) = false := decide_eq_false a1
        go_wp2_with fail
        clear z0 f0 z1 f1 z2 f2 z3 f3 z4 f4
        go_loopw [6] (fun i wr => ∃ i2 : Nat, i = .int .i64 (i2 : Nat) ∧ i2 ≤ 6 ∧ (n + 1 < x.size → ∀ j : Nat, j < i2 → bt (⟨#[115, 98, 100, 99, 120, 111]⟩ : ByteArray) (j : Int) ≠ bt x ni) ∧ wr.heap[w.heap.size]? = some (.cells #[.int .u8 0, .bool false, .bool false, .int .i64 0, .int .i64 0] 55 (0, 0)) ∧ wr.heap[w.heap.size + 1]? = some (.cells #[.int .u8 0, .bool false, .bool false, .int .i64 wd, .int .i64 ni] 55 (0, 0)) ∧ Below w.heap.size w wr) (fun i _ => 6 - (intOf i).toNat)
        case atStart => exact ⟨0, rfl, by decide, fun _ j hj => absurd hj (by omega), HH.out⟩
        case round =>
          clear HH
          obtain ⟨i2, rfl, hi6, hno, H0, H1, HB⟩ := hrel
          have z0 : wr.cell? ⟨w.heap.size + 1, 0, none⟩ = some (.int .u8 0) := (blk_cell H1 0).trans rfl
          have f0 := blk_frozen H1 0
          have z1 : wr.cell? ⟨w.heap.size + 1, 1, none⟩ = some (.bool false) := (blk_cell H1 1).trans rfl
          have f1 := blk_frozen H1 1
          have z2 : wr.cell? ⟨w.heap.size + 1, 2, none⟩ = some (.bool false) := (blk_cell H1 2).trans rfl
          have f2 := blk_frozen H1 2
          have z3 : wr.cell? ⟨w.heap.size + 1, 3, none⟩ = some (.int .i64 wd) := (blk_cell H1 3).trans rfl
          have f3 := blk_frozen H1 3
          have z4 : wr.cell? ⟨w.heap.size + 1, 4, none⟩ = some (.int .i64 ni) := (blk_cell H1 4).trans rfl
          have f4 := blk_frozen H1 4
          have HH := Lib.hid (And.intro H0 (And.intro H1 HB))
          by_cases b1 : i2 < 6
          · by_cases b2 : n + 1 < x.size
            · have c1 : decide (ni < (x.size : Int)) = true := decide_eq_true (by omega)
              have c2 : (ni < (x.size : Int)) = True := eq_true (by omega)
              have c3 : (ni.toNat < x.size) = True := eq_true (by omega)
              have hlb := bt_range (⟨#[115, 98, 100, 99, 120, 111]⟩ : ByteArray) ((i2 : Nat) : Int)
              have hl5 := bt_at (⟨#[115, 98, 100, 99, 120, 111]⟩ : ByteArray) ((i2 : Nat) : Int)
              by_cases b3 : bt x ni = bt (⟨#[115, 98, 100, 99, 120, 111]⟩ : ByteArray) ((i2 : Nat) : Int)
              · have HB3 := Lib.hid b3
                have u0 : wr.cell? ⟨w.heap.size, 0, none⟩ = some (.int .u8 0) := (blk_cell H0 0).trans rfl
                have v0 := blk_frozen H0 0
                have u1 : wr.cell? ⟨w.heap.size, 1, none⟩ = some (.bool false) := (blk_cell H0 1).trans rfl
                have v1 := blk_frozen H0 1
                have u2 : wr.cell? ⟨w.heap.size, 2, none⟩ = some (.bool false) := (blk_cell H0 2).trans rfl
                have v2 := blk_frozen H0 2
                have u3 : wr.cell? ⟨w.heap.size, 3, none⟩ = some (.int .i64 0) := (blk_cell H0 3).trans rfl
                have v3 := blk_frozen H0 3
                have u4 : wr.cell? ⟨w.heap.size, 4, none⟩ = some (.int .i64 0) := (blk_cell H0 4).trans rfl
                have v4 := blk_frozen H0 4
                have c4 : (bt x ni == bt (⟨#[115, 98, 100, 99, 120, 111]⟩ : ByteArray) ((i2 : Nat) : Int)) = true := beq_iff_eq.2 b3
                clear H0 H1 HB hno b3
                generalize hii : ((i2 : Nat) : Int) = ii at *
                generalize hde : bt (⟨#[115, 98, 100, 99, 120, 111]⟩ : ByteArray) ii = d at *
                generalize hce : bt x ni = c at *
                have c5 : decide (ii < 6) = true := decide_eq_true (by omega)
                have c6 : (ii < 6) = True := eq_true (by omega)
                have c7 : ((0 : Int) ≤ ii) = True := eq_true (by omega)
                have c8 : (ii.toNat < 6) = True := eq_true (by omega)
                go_wp2_with fail
                go_region_o
                go_wp2_with fail
                obtain ⟨H0, H1, HB⟩ := HH.out
                have hne : w.heap.size ≠ w.heap.size + 1 := by omega
                refine bodyPost_ret (results_cell_row rfl _ _ w.heap.size 55 #[.int .u8 d, .bool false, .bool false, .int .i64 wd, .int .i64 (ni + 1)] (0, 0) _ rfl (blk_drew (blk_put (blk_put (blk_put (blk_put (blk_put (blk_far (blk_far H0 hne _) hne _) 0 _ rfl) 1 _ rfl) 2 _ rfl) 3 _ rfl) 4 _ rfl)) hu rfl (by kernel_rfl)) rfl ?_
                have hR : R = (d, 0, wd, wrap64 ((n : Int) + 1), true) := by
                  unfold convTail at hT
                  obtain ⟨v, hv, he⟩ := idx_hit i2 b1
                  rw [hii, hde] at he
                  rw [if_neg (hTN b2), hTL b2, HB3.out, he, Option.bind_some, if_neg (by omega)] at hT
                  exact (Option.some.inj hT).symm
                have hw : wrap64 (wrap64 ((n : Int) + 1) + 1) = ni + 1 := by
                  rw [← hni]
                  exact w2 n (Nat.le_trans (Nat.le_of_succ_le hsx) hx9)
                refine ⟨?_, ((((((HB.setCell (p := ⟨w.heap.size + 1, 0, none⟩) (Nat.le_succ _) _).setCell (p := ⟨w.heap.size + 1, 4, none⟩) (Nat.le_succ _) _).setCell (p := ⟨w.heap.size, 0, none⟩) (Nat.le_refl _) _).setCell (p := ⟨w.heap.size, 1, none⟩) (Nat.le_refl _) _).setCell (p := ⟨w.heap.size, 2, none⟩) (Nat.le_refl _) _).setCell (p := ⟨w.heap.size, 3, none⟩) (Nat.le_refl _) _).setCell (p := ⟨w.heap.size, 4, none⟩) (Nat.le_refl _) _ |>.drew⟩
                rw [hR]
                unfold convOf aggOf
                dsimp only
                rw [if_pos rfl, hw]
                rfl
              · have HN := Lib.hid hno
                have c4 : (bt x ni == bt (⟨#[115, 98, 100, 99, 120, 111]⟩ : ByteArray) ((i2 : Nat) : Int)) = false := beq_eq_false_iff_ne.2 b3
                have HB3 := Lib.hid b3
                clear H0 H1 HB hno b3
                generalize hii : ((i2 : Nat) : Int) = ii at *
                generalize hde : bt (⟨#[115, 98, 100, 99, 120, 111]⟩ : ByteArray) ii = d at *
                generalize hce : bt x ni = c at *
                have c5 : decide (ii < 6) = true := decide_eq_true (by omega)
                have c6 : (ii < 6) = True := eq_true (by omega)
                have c7 : ((0 : Int) ≤ ii) = True := eq_true (by omega)
                have c8 : (ii.toNat < 6) = True := eq_true (by omega)
                go_wp2_with fail
                go_region_o
                go_wp2_with fail
                go_roundw
                case rel =>
                  obtain ⟨H0, H1, HB⟩ := HH.out
                  refine ⟨i2 + 1, by rw [← hii]; rfl, by omega, fun hb j hj => ?_, H0, H1, HB.drew⟩
                  rcases Nat.lt_or_ge j i2 with h | h
                  · exact HN.out hb j h
                  · obtain rfl : j = i2 := by omega
                    rw [hii, hde]
                    exact fun e => HB3.out e.symm
                case measure =>
                  rw [← hii]
                  simp only [intOf, Int.toNat_natCast]
                  omega
            · have c1 : decide (ni < (x.size : Int)) = false := decide_eq_false (by omega)
              have HN := Lib.hid hno
              clear H0 H1 HB hno
              generalize hii : ((i2 : Nat) : Int) = ii at *
              have c5 : decide (ii < 6) = true := decide_eq_true (by omega)
              go_wp2_with fail
              go_region_o
              go_wp2_with fail
              go_roundw
              case rel =>
                obtain ⟨H0, H1, HB⟩ := HH.out
                exact ⟨i2 + 1, by rw [← hii]; rfl, by omega, fun hb => absurd hb b2, H0, H1, HB.drew⟩
              case measure =>
                rw [← hii]
                simp only [intOf, Int.toNat_natCast]
                omega
          · have HN := Lib.hid hno
            have u0 : wr.cell? ⟨w.heap.size, 0, none⟩ = some (.int .u8 0) := (blk_cell H0 0).trans rfl
            have v0 := blk_frozen H0 0
            have u1 : wr.cell? ⟨w.heap.size, 1, none⟩ = some (.bool false) := (blk_cell H0 1).trans rfl
            have v1 := blk_frozen H0 1
            have u2 : wr.cell? ⟨w.heap.size, 2, none⟩ = some (.bool false) := (blk_cell H0 2).trans rfl
            have v2 := blk_frozen H0 2
            have u3 : wr.cell? ⟨w.heap.size, 3, none⟩ = some (.int .i64 0) := (blk_cell H0 3).trans rfl
            have v3 := blk_frozen H0 3
            have u4 : wr.cell? ⟨w.heap.size, 4, none⟩ = some (.int .i64 0) := (blk_cell H0 4).trans rfl
            have v4 := blk_frozen H0 4
            clear H0 H1 HB hno
            generalize hii : ((i2 : Nat) : Int) = ii at *
            have c5 : decide (ii < 6) = false := decide_eq_false (by omega)
            go_wp2_with fail
            obtain ⟨H0, H1, HB⟩ := HH.out
            refine bodyPost_ret (results_cell_row rfl _ _ w.heap.size 55 #[.int .u8 0, .bool false, .bool false, .int .i64 0, .int .i64 0] (0, 0) _ rfl (blk_put (blk_put (blk_put (blk_put (blk_put H0 0 _ rfl) 1 _ rfl) 2 _ rfl) 3 _ rfl) 4 _ rfl) hu rfl (by kernel_rfl)) rfl ?_
            have hR : R = (0, 0, 0, 0, false) := by
              unfold convTail at hT
              by_cases b : n + 1 < x.size
              · rw [if_neg (hTN b), hTL b, idx_miss _ (bt_range x ni) (fun j hj => HN.out b j (by omega)), Option.bind_some, if_pos (by decide)] at hT
                exact (Option.some.inj hT).symm
              · rw [if_pos (hTS b)] at hT
                exact (Option.some.inj hT).symm
            exact ⟨by rw [hR]; rfl, ((((HB.setCell (p := ⟨w.heap.size, 0, none⟩) (Nat.le_refl _) _).setCell (p := ⟨w.heap.size, 1, none⟩) (Nat.le_refl _) _).setCell (p := ⟨w.heap.size, 2, none⟩) (Nat.le_refl _) _).setCell (p := ⟨w.heap.size, 3, none⟩) (Nat.le_refl _) _).setCell (p := ⟨w.heap.size, 4, none⟩) (Nat.le_refl _) _⟩
      · have e1 : decide ((k : Int) < 3) = true := decide_eq_true a1
        have e2 : decide (ni < (x.size : Int)) = false := decide_eq_false (by omega)
        go_wp2_with fail
        clear z0 f0 z1 f1 z2 f2 z3 f3 z4 f4
        go_loopw [6] (fun i wr => ∃ i2 : Nat, i = .int .i64 (i2 : Nat) ∧ i2 ≤ 6 ∧ (n + 1 < x.size → ∀ j : Nat, j < i2 → bt (⟨#[115, 98, 100, 99, 120, 111]⟩ : ByteArray) (j : Int) ≠ bt x ni) ∧ wr.heap[w.heap.size]? = some (.cells #[.int .u8 0, .bool false, .bool false, .int .i64 0, .int .i64 0] 55 (0, 0)) ∧ wr.heap[w.heap.size + 1]? = some (.cells #[.int .u8 0, .bool false, .bool false, .int .i64 wd, .int .i64 ni] 55 (0, 0)) ∧ Below w.heap.size w wr) (fun i _ => 6 - (intOf i).toNat)
        case atStart => exact ⟨0, rfl, by decide, fun _ j hj => absurd hj (by omega), HH.out⟩
        case round =>
          clear HH
          obtain ⟨i2, rfl, hi6, hno, H0, H1, HB⟩ := hrel
          have z0 : wr.cell? ⟨w.heap.size + 1, 0, none⟩ = some (.int .u8 0) := (blk_cell H1 0).trans rfl
          have f0 := blk_frozen H1 0
          have z1 : wr.cell? ⟨w.heap.size + 1, 1, none⟩ = some (.bool false) := (blk_cell H1 1).trans rfl
          have f1 := blk_frozen H1 1
          have z2 : wr.cell? ⟨w.heap.size + 1, 2, none⟩ = some (.bool false) := (blk_cell H1 2).trans rfl
          have f2 := blk_frozen H1 2
          have z3 : wr.cell? ⟨w.heap.size + 1, 3, none⟩ = some (.int .i64 wd) := (blk_cell H1 3).trans rfl
          have f3 := blk_frozen H1 3
          have z4 : wr.cell? ⟨w.heap.size + 1, 4, none⟩ = some (.int .i64 ni) := (blk_cell H1 4).trans rfl
          have f4 := blk_frozen H1 4
          have HH := Lib.hid (And.intro H0 (And.intro H1 HB))
          by_cases b1 : i2 < 6
          · by_cases b2 : n + 1 < x.size
            · exact absurd b2 a2
            · have c1 : decide (ni < (x.size : Int)) = false := decide_eq_false (by omega)
              have HN := Lib.hid hno
              clear H0 H1 HB hno
              generalize hii : ((i2 : Nat) : Int) = ii at *
              have c5 : decide (ii < 6) = true := decide_eq_true (by omega)
              go_wp2_with fail
              go_region_o
              go_wp2_with fail
              go_roundw
              case rel =>
                obtain ⟨H0, H1, HB⟩ := HH.out
                exact ⟨i2 + 1, by rw [← hii]; rfl, by omega, fun hb => absurd hb b2, H0, H1, HB.drew⟩
              case measure =>
                rw [← hii]
                simp only [intOf, Int.toNat_natCast]
                omega
          · have HN := Lib.hid hno
            have u0 : wr.cell? ⟨w.heap.size, 0, none⟩ = some (.int .u8 0) := (blk_cell H0 0).trans rfl
            have v0 := blk_frozen H0 0
            have u1 : wr.cell? ⟨w.heap.size, 1, none⟩ = some (.bool false) := (blk_cell H0 1).trans rfl
            have v1 := blk_frozen H0 1
            have u2 : wr.cell? ⟨w.heap.size, 2, none⟩ = some (.bool false) := (blk_cell H0 2).trans rfl
            have v2 := blk_frozen H0 2
            have u3 : wr.cell? ⟨w.heap.size, 3, none⟩ = some (.int .i64 0) := (blk_cell H0 3).trans rfl
            have v3 := blk_frozen H0 3
            have u4 : wr.cell? ⟨w.heap.size, 4, none⟩ = some (.int .i64 0) := (blk_cell H0 4).trans rfl
            have v4 := blk_frozen H0 4
            clear H0 H1 HB hno
            generalize hii : ((i2 : Nat) : Int) = ii at *
            have c5 : decide (ii < 6) = false := decide_eq_false (by omega)
            go_wp2_with fail
            obtain ⟨H0, H1, HB⟩ := HH.out
            refine bodyPost_ret (results_cell_row rfl _ _ w.heap.size 55 #[.int .u8 0, .bool false, .bool false, .int .i64 0, .int .i64 0] (0, 0) _ rfl (blk_put (blk_put (blk_put (blk_put (blk_put H0 0 _ rfl) 1 _ rfl) 2 _ rfl) 3 _ rfl) 4 _ rfl) hu rfl (by kernel_rfl)) rfl ?_
            have hR : R = (0, 0, 0, 0, false) := by
              unfold convTail at hT
              by_cases b : n + 1 < x.size
              · rw [if_neg (hTN b), hTL b, idx_miss _ (bt_range x ni) (fun j hj => HN.out b j (by omega)), Option.bind_some, if_pos (by decide)] at hT
                exact (Option.some.inj hT).symm
              · rw [if_pos (hTS b)] at hT
                exact (Option.some.inj hT).symm
            exact ⟨by rw [hR]; rfl, ((((HB.setCell (p := ⟨w.heap.size, 0, none⟩) (Nat.le_refl _) _).setCell (p := ⟨w.heap.size, 1, none⟩) (Nat.le_refl _) _).setCell (p := ⟨w.heap.size, 2, none⟩) (Nat.le_refl _) _).setCell (p := ⟨w.heap.size, 3, none⟩) (Nat.le_refl _) _).setCell (p := ⟨w.heap.size, 4, none⟩) (Nat.le_refl _) _⟩
      · have e1 : decide ((k : Int) < 3) = true := decide_eq_true a1
        have e2 : decide (ni < (x.size : Int)) = true := decide_eq_true (by omega)
        have e9 : (ni < (x.size : Int)) = True := eq_true (by omega)
        have e6 : (ni.toNat < x.size) = True := eq_true (by omega)
        have e3 : decide (48 ≤ bt x ni) = false := decide_eq_false a3
        go_wp2_with fail
        clear z0 f0 z1 f1 z2 f2 z3 f3 z4 f4
        go_loopw [6] (fun i wr => ∃ i2 : Nat, i = .int .i64 (i2 : Nat) ∧ i2 ≤ 6 ∧ (n + 1 < x.size → ∀ j : Nat, j < i2 → bt (⟨#[115, 98, 100, 99, 120, 111]⟩ : ByteArray) (j : Int) ≠ bt x ni) ∧ wr.heap[w.heap.size]? = some (.cells #[.int .u8 0, .bool false, .bool false, .int .i64 0, .int .i64 0] 55 (0, 0)) ∧ wr.heap[w.heap.size + 1]? = some (.cells #[.int .u8 0, .bool false, .bool false, .int .i64 wd, .int .i64 ni] 55 (0, 0)) ∧ Below w.heap.size w wr) (fun i _ => 6 - (intOf i).toNat)
        case atStart => exact ⟨0, rfl, by decide, fun _ j hj => absurd hj (by omega), HH.out⟩
        case round =>
          clear HH
          obtain ⟨i2, rfl, hi6, hno, H0, H1, HB⟩ := hrel
          have z0 : wr.cell? ⟨w.heap.size + 1, 0, none⟩ = some (.int .u8 0) := (blk_cell H1 0).trans rfl
          have f0 := blk_frozen H1 0
          have z1 : wr.cell? ⟨w.heap.size + 1, 1, none⟩ = some (.bool false) := (blk_cell H1 1).trans rfl
          have f1 := blk_frozen H1 1
          have z2 : wr.cell? ⟨w.heap.size + 1, 2, none⟩ = some (.bool false) := (blk_cell H1 2).trans rfl
          have f2 := blk_frozen H1 2
          have z3 : wr.cell? ⟨w.heap.size + 1, 3, none⟩ = some (.int .i64 wd) := (blk_cell H1 3).trans rfl
          have f3 := blk_frozen H1 3
          have z4 : wr.cell? ⟨w.heap.size + 1, 4, none⟩ = some (.int .i64 ni) := (blk_cell H1 4).trans rfl
          have f4 := blk_frozen H1 4
          have HH := Lib.hid (And.intro H0 (And.intro H1 HB))
          by_cases b1 : i2 < 6
          · by_cases b2 : n + 1 < x.size
            · have c1 : decide (ni < (x.size : Int)) = true := decide_eq_true (by omega)
              have c2 : (ni < (x.size : Int)) = True := eq_true (by omega)
              have c3 : (ni.toNat < x.size) = True := eq_true (by omega)
              have hlb := bt_range (⟨#[115, 98, 100, 99, 120, 111]⟩ : ByteArray) ((i2 : Nat) : Int)
              have hl5 := bt_at (⟨#[115, 98, 100, 99, 120, 111]⟩ : ByteArray) ((i2 : Nat) : Int)
              by_cases b3 : bt x ni = bt (⟨#[115, 98, 100, 99, 120, 111]⟩ : ByteArray) ((i2 : Nat) : Int)
              · have HB3 := Lib.hid b3
                have u0 : wr.cell? ⟨w.heap.size, 0, none⟩ = some (.int .u8 0) := (blk_cell H0 0).trans rfl
                have v0 := blk_frozen H0 0
                have u1 : wr.cell? ⟨w.heap.size, 1, none⟩ = some (.bool false) := (blk_cell H0 1).trans rfl
                have v1 := blk_frozen H0 1
                have u2 : wr.cell? ⟨w.heap.size, 2, none⟩ = some (.bool false) := (blk_cell H0 2).trans rfl
                have v2 := blk_frozen H0 2
                have u3 : wr.cell? ⟨w.heap.size, 3, none⟩ = some (.int .i64 0) := (blk_cell H0 3).trans rfl
                have v3 := blk_frozen H0 3
                have u4 : wr.cell? ⟨w.heap.size, 4, none⟩ = some (.int .i64 0) := (blk_cell H0 4).trans rfl
                have v4 := blk_frozen H0 4
                have c4 : (bt x ni == bt (⟨#[115, 98, 100, 99, 120, 111]⟩ : ByteArray) ((i2 : Nat) : Int)) = true := beq_iff_eq.2 b3
                clear H0 H1 HB hno b3
                generalize hii : ((i2 : Nat) : Int) = ii at *
                generalize hde : bt (⟨#[115, 98, 100, 99, 120, 111]⟩ : ByteArray) ii = d at *
                generalize hce : bt x ni = c at *
                have c5 : decide (ii < 6) = true := decide_eq_true (by omega)
                have c6 : (ii < 6) = True := eq_true (by omega)
                have c7 : ((0 : Int) ≤ ii) = True := eq_true (by omega)
                have c8 : (ii.toNat < 6) = True := eq_true (by omega)
                go_wp2_with fail
                go_region_o
                go_wp2_with fail
                obtain ⟨H0, H1, HB⟩ := HH.out
                have hne : w.heap.size ≠ w.heap.size + 1 := by omega
                refine bodyPost_ret (results_cell_row rfl _ _ w.heap.size 55 #[.int .u8 d, .bool false, .bool false, .int .i64 wd, .int .i64 (ni + 1)] (0, 0) _ rfl (blk_drew (blk_put (blk_put (blk_put (blk_put (blk_put (blk_far (blk_far H0 hne _) hne _) 0 _ rfl) 1 _ rfl) 2 _ rfl) 3 _ rfl) 4 _ rfl)) hu rfl (by kernel_rfl)) rfl ?_
                have hR : R = (d, 0, wd, wrap64 ((n : Int) + 1), true) := by
                  unfold convTail at hT
                  obtain ⟨v, hv, he⟩ := idx_hit i2 b1
                  rw [hii, hde] at he
                  rw [if_neg (hTN b2), hTL b2, HB3.out, he, Option.bind_some, if_neg (by omega)] at hT
                  exact (Option.some.inj hT).symm
                have hw : wrap64 (wrap64 ((n : Int) + 1) + 1) = ni + 1 := by
                  rw [← hni]
                  exact w2 n (Nat.le_trans (Nat.le_of_succ_le hsx) hx9)
                refine ⟨?_, ((((((HB.setCell (p := ⟨w.heap.size + 1, 0, none⟩) (Nat.le_succ _) _).setCell (p := ⟨w.heap.size + 1, 4, none⟩) (Nat.le_succ _) _).setCell (p := ⟨w.heap.size, 0, none⟩) (Nat.le_refl _) _).setCell (p := ⟨w.heap.size, 1, none⟩) (Nat.le_refl _) _).setCell (p := ⟨w.heap.size, 2, none⟩) (Nat.le_refl _) _).setCell (p := ⟨w.heap.size, 3, none⟩) (Nat.le_refl _) _).setCell (p := ⟨w.heap.size, 4, none⟩) (Nat.le_refl _) _ |>.drew⟩
                rw [hR]
                unfold convOf aggOf
                dsimp only
                rw [if_pos rfl, hw]
                rfl
              · have HN := Lib.hid hno
                have c4 : (bt x ni == bt (⟨#[115, 98, 100, 99, 120, 111]⟩ : ByteArray) ((i2 : Nat) : Int)) = false := beq_eq_false_iff_ne.2 b3
                have HB3 := Lib.hid b3
                clear H0 H1 HB hno b3
                generalize hii : ((i2 : Nat) : Int) = ii at *
                generalize hde : bt (⟨#[115, 98, 100, 99, 120, 111]⟩ : ByteArray) ii = d at *
                generalize hce : bt x ni = c at *
                have c5 : decide (ii < 6) = true := decide_eq_true (by omega)
                have c6 : (ii < 6) = True := eq_true (by omega)
                have c7 : ((0 : Int) ≤ ii) = True := eq_true (by omega)
                have c8 : (ii.toNat < 6) = True := eq_true (by omega)
                go_wp2_with fail
                go_region_o
                go_wp2_with fail
                go_roundw
                case rel =>
                  obtain ⟨H0, H1, HB⟩ := HH.out
                  refine ⟨i2 + 1, by rw [← hii]; rfl, by omega, fun hb j hj => ?_, H0, H1, HB.drew⟩
                  rcases Nat.lt_or_ge j i2 with h | h
                  · exact HN.out hb j h
                  · obtain rfl : j = i2 := by omega
                    rw [hii, hde]
                    exact fun e => HB3.out e.symm
                case measure =>
                  rw [← hii]
                  simp only [intOf, Int.toNat_natCast]
                  omega
            · exact absurd a2 b2
          · have HN := Lib.hid hno
            have u0 : wr.cell? ⟨w.heap.size, 0, none⟩ = some (.int .u8 0) := (blk_cell H0 0).trans rfl
            have v0 := blk_frozen H0 0
            have u1 : wr.cell? ⟨w.heap.size, 1, none⟩ = some (.bool false) := (blk_cell H0 1).trans rfl
            have v1 := blk_frozen H0 1
            have u2 : wr.cell? ⟨w.heap.size, 2, none⟩ = some (.bool false) := (blk_cell H0 2).trans rfl
            have v2 := blk_frozen H0 2
            have u3 : wr.cell? ⟨w.heap.size, 3, none⟩ = some (.int .i64 0) := (blk_cell H0 3).trans rfl
            have v3 := blk_frozen H0 3
            have u4 : wr.cell? ⟨w.heap.size, 4, none⟩ = some (.int .i64 0) := (blk_cell H0 4).trans rfl
            have v4 := blk_frozen H0 4
            clear H0 H1 HB hno
            generalize hii : ((i2 : Nat) : Int) = ii at *
            have c5 : decide (ii < 6) = false := decide_eq_false (by omega)
            go_wp2_with fail
            obtain ⟨H0, H1, HB⟩ := HH.out
            refine bodyPost_ret (results_cell_row rfl _ _ w.heap.size 55 #[.int .u8 0, .bool false, .bool false, .int .i64 0, .int .i64 0] (0, 0) _ rfl (blk_put (blk_put (blk_put (blk_put (blk_put H0 0 _ rfl) 1 _ rfl) 2 _ rfl) 3 _ rfl) 4 _ rfl) hu rfl (by kernel_rfl)) rfl ?_
            have hR : R = (0, 0, 0, 0, false) := by
              unfold convTail at hT
              by_cases b : n + 1 < x.size
              · rw [if_neg (hTN b), hTL b, idx_miss _ (bt_range x ni) (fun j hj => HN.out b j (by omega)), Option.bind_some, if_pos (by decide)] at hT
                exact (Option.some.inj hT).symm
              · rw [if_pos (hTS b)] at hT
                exact (Option.some.inj hT).symm
            exact ⟨by rw [hR]; rfl, ((((HB.setCell (p := ⟨w.heap.size, 0, none⟩) (Nat.le_refl _) _).setCell (p := ⟨w.heap.size, 1, none⟩) (Nat.le_refl _) _).setCell (p := ⟨w.heap.size, 2, none⟩) (Nat.le_refl _) _).setCell (p := ⟨w.heap.size, 3, none⟩) (Nat.le_refl _) _).setCell (p := ⟨w.heap.size, 4, none⟩) (Nat.le_refl _) _⟩
      · have e1 : decide ((k : Int) < 3) = true := decide_eq_true a1
        have e2 : decide (ni < (x.size : Int)) = true := decide_eq_true (by omega)
        have e9 : (ni < (x.size : Int)) = True := eq_true (by omega)
        have e6 : (ni.toNat < x.size) = True := eq_true (by omega)
        have e3 : decide (48 ≤ bt x ni) = true := decide_eq_true a3
        have e4 : decide (bt x ni ≤ 57) = false := decide_eq_false a4
        go_wp2_with fail
        clear z0 f0 z1 f1 z2 f2 z3 f3 z4 f4
        go_loopw [6] (fun i wr => ∃ i2 : Nat, i = .int .i64 (i2 : Nat) ∧ i2 ≤ 6 ∧ (n + 1 < x.size → ∀ j : Nat, j < i2 → bt (⟨#[115, 98, 100, 99, 120, 111]⟩ : ByteArray) (j : Int) ≠ bt x ni) ∧ wr.heap[w.heap.size]? = some (.cells #[.int .u8 0, .bool false, .bool false, .int .i64 0, .int .i64 0] 55 (0, 0)) ∧ wr.heap[w.heap.size + 1]? = some (.cells #[.int .u8 0, .bool false, .bool false, .int .i64 wd, .int .i64 ni] 55 (0, 0)) ∧ Below w.heap.size w wr) (fun i _ => 6 - (intOf i).toNat)
        case atStart => exact ⟨0, rfl, by decide, fun _ j hj => absurd hj (by omega), HH.out⟩
        case round =>
          clear HH
          obtain ⟨i2, rfl, hi6, hno, H0, H1, HB⟩ := hrel
          have z0 : wr.cell? ⟨w.heap.size + 1, 0, none⟩ = some (.int .u8 0) := (blk_cell H1 0).trans rfl
          have f0 := blk_frozen H1 0
          have z1 : wr.cell? ⟨w.heap.size + 1, 1, none⟩ = some (.bool false) := (blk_cell H1 1).trans rfl
          have f1 := blk_frozen H1 1
          have z2 : wr.cell? ⟨w.heap.size + 1, 2, none⟩ = some (.bool false) := (blk_cell H1 2).trans rfl
          have f2 := blk_frozen H1 2
          have z3 : wr.cell? ⟨w.heap.size + 1, 3, none⟩ = some (.int .i64 wd) := (blk_cell H1 3).trans rfl
          have f3 := blk_frozen H1 3
          have z4 : wr.cell? ⟨w.heap.size + 1, 4, none⟩ = some (.int .i64 ni) := (blk_cell H1 4).trans rfl
          have f4 := blk_frozen H1 4
          have HH := Lib.hid (And.intro H0 (And.intro H1 HB))
          by_cases b1 : i2 < 6
          · by_cases b2 : n + 1 < x.size
            · have c1 : decide (ni < (x.size : Int)) = true := decide_eq_true (by omega)
              have c2 : (ni < (x.size : Int)) = True := eq_true (by omega)
              have c3 : (ni.toNat < x.size) = True := eq_true (by omega)
              have hlb := bt_range (⟨#[115, 98, 100, 99, 120, 111]⟩ : ByteArray) ((i2 : Nat) : Int)
              have hl5 := bt_at (⟨#[115, 98, 100, 99, 120, 111]⟩ : ByteArray) ((i2 : Nat) : Int)
              by_cases b3 : bt x ni = bt (⟨#[115, 98, 100, 99, 120, 111]⟩ : ByteArray) ((i2 : Nat) : Int)
              · have HB3 := Lib.hid b3
                have u0 : wr.cell? ⟨w.heap.size, 0, none⟩ = some (.int .u8 0) := (blk_cell H0 0).trans rfl
                have v0 := blk_frozen H0 0
                have u1 : wr.cell? ⟨w.heap.size, 1, none⟩ = some (.bool false) := (blk_cell H0 1).trans rfl
                have v1 := blk_frozen H0 1
                have u2 : wr.cell? ⟨w.heap.size, 2, none⟩ = some (.bool false) := (blk_cell H0 2).trans rfl
                have v2 := blk_frozen H0 2
                have u3 : wr.cell? ⟨w.heap.size, 3, none⟩ = some (.int .i64 0) := (blk_cell H0 3).trans rfl
                have v3 := blk_frozen H0 3
                have u4 : wr.cell? ⟨w.heap.size, 4, none⟩ = some (.int .i64 0) := (blk_cell H0 4).trans rfl
                have v4 := blk_frozen H0 4
                have c4 : (bt x ni == bt (⟨#[115, 98, 100, 99, 120, 111]⟩ : ByteArray) ((i2 : Nat) : Int)) = true := beq_iff_eq.2 b3
                clear H0 H1 HB hno b3
                generalize hii : ((i2 : Nat) : Int) = ii at *
                generalize hde : bt (⟨#[115, 98, 100, 99, 120, 111]⟩ : ByteArray) ii = d at *
                generalize hce : bt x ni = c at *
                have c5 : decide (ii < 6) = true := decide_eq_true (by omega)
                have c6 : (ii < 6) = True := eq_true (by omega)
                have c7 : ((0 : Int) ≤ ii) = True := eq_true (by omega)
                have c8 : (ii.toNat < 6) = True := eq_true (by omega)
                go_wp2_with fail
                go_region_o
                go_wp2_with fail
                obtain ⟨H0, H1, HB⟩ := HH.out
                have hne : w.heap.size ≠ w.heap.size + 1 := by omega
                refine bodyPost_ret (results_cell_row rfl _ _ w.heap.size 55 #[.int .u8 d, .bool false, .bool false, .int .i64 wd, .int .i64 (ni + 1)] (0, 0) _ rfl (blk_drew (blk_put (blk_put (blk_put (blk_put (blk_put (blk_far (blk_far H0 hne _) hne _) 0 _ rfl) 1 _ rfl) 2 _ rfl) 3 _ rfl) 4 _ rfl)) hu rfl (by kernel_rfl)) rfl ?_
                have hR : R = (d, 0, wd, wrap64 ((n : Int) + 1), true) := by
                  unfold convTail at hT
                  obtain ⟨v, hv, he⟩ := idx_hit i2 b1
                  rw [hii, hde] at he
                  rw [if_neg (hTN b2), hTL b2, HB3.out, he, Option.bind_some, if_neg (by omega)] at hT
                  exact (Option.some.inj hT).symm
                have hw : wrap64 (wrap64 ((n : Int) + 1) + 1) = ni + 1 := by
                  rw [← hni]
                  exact w2 n (Nat.le_trans (Nat.le_of_succ_le hsx) hx9)
                refine ⟨?_, ((((((HB.setCell (p := ⟨w.heap.size + 1, 0, none⟩) (Nat.le_succ _) _).setCell (p := ⟨w.heap.size + 1, 4, none⟩) (Nat.le_succ _) _).setCell (p := ⟨w.heap.size, 0, none⟩) (Nat.le_refl _) _).setCell (p := ⟨w.heap.size, 1, none⟩) (Nat.le_refl _) _).setCell (p := ⟨w.heap.size, 2, none⟩) (Nat.le_refl _) _).setCell (p := ⟨w.heap.size, 3, none⟩) (Nat.le_refl _) _).setCell (p := ⟨w.heap.size, 4, none⟩) (Nat.le_refl _) _ |>.drew⟩
                rw [hR]
                unfold convOf aggOf
                dsimp only
                rw [if_pos rfl, hw]
                rfl
              · have HN := Lib.hid hno
                have c4 : (bt x ni == bt (⟨#[115, 98, 100, 99, 120, 111]⟩ : ByteArray) ((i2 : Nat) : Int)) = false := beq_eq_false_iff_ne.2 b3
                have HB3 := Lib.hid b3
                clear H0 H1 HB hno b3
                generalize hii : ((i2 : Nat) : Int) = ii at *
                generalize hde : bt (⟨#[115, 98, 100, 99, 120, 111]⟩ : ByteArray) ii = d at *
                generalize hce : bt x ni = c at *
                have c5 : decide (ii < 6) = true := decide_eq_true (by omega)
                have c6 : (ii < 6) = True := eq_true (by omega)
                have c7 : ((0 : Int) ≤ ii) = True := eq_true (by omega)
                have c8 : (ii.toNat < 6) = True := eq_true (by omega)
                go_wp2_with fail
                go_region_o
                go_wp2_with fail
                go_roundw
                case rel =>
                  obtain ⟨H0, H1, HB⟩ := HH.out
                  refine ⟨i2 + 1, by rw [← hii]; rfl, by omega, fun hb j hj => ?_, H0, H1, HB.drew⟩
                  rcases Nat.lt_or_ge j i2 with h | h
                  · exact HN.out hb j h
                  · obtain rfl : j = i2 := by omega
                    rw [hii, hde]
                    exact fun e => HB3.out e.symm
                case measure =>
                  rw [← hii]
                  simp only [intOf, Int.toNat_natCast]
                  omega
            · exact absurd a2 b2
          · have HN := Lib.hid hno
            have u0 : wr.cell? ⟨w.heap.size, 0, none⟩ = some (.int .u8 0) := (blk_cell H0 0).trans rfl
            have v0 := blk_frozen H0 0
            have u1 : wr.cell? ⟨w.heap.size, 1, none⟩ = some (.bool false) := (blk_cell H0 1).trans rfl
            have v1 := blk_frozen H0 1
            have u2 : wr.cell? ⟨w.heap.size, 2, none⟩ = some (.bool false) := (blk_cell H0 2).trans rfl
            have v2 := blk_frozen H0 2
            have u3 : wr.cell? ⟨w.heap.size, 3, none⟩ = some (.int .i64 0) := (blk_cell H0 3).trans rfl
            have v3 := blk_frozen H0 3
            have u4 : wr.cell? ⟨w.heap.size, 4, none⟩ = some (.int .i64 0) := (blk_cell H0 4).trans rfl
            have v4 := blk_frozen H0 4
            clear H0 H1 HB hno
            generalize hii : ((i2 : Nat) : Int) = ii at *
            have c5 : decide (ii < 6) = false := decide_eq_false (by omega)
            go_wp2_with fail
            obtain ⟨H0, H1, HB⟩ := HH.out
            refine bodyPost_ret (results_cell_row rfl _ _ w.heap.size 55 #[.int .u8 0, .bool false, .bool false, .int .i64 0, .int .i64 0] (0, 0) _ rfl (blk_put (blk_put (blk_put (blk_put (blk_put H0 0 _ rfl) 1 _ rfl) 2 _ rfl) 3 _ rfl) 4 _ rfl) hu rfl (by kernel_rfl)) rfl ?_
            have hR : R = (0, 0, 0, 0, false) := by
              unfold convTail at hT
              by_cases b : n + 1 < x.size
              · rw [if_neg (hTN b), hTL b, idx_miss _ (bt_range x ni) (fun j hj => HN.out b j (by omega)), Option.bind_some, if_pos (by decide)] at hT
                exact (Option.some.inj hT).symm
              · rw [if_pos (hTS b)] at hT
                exact (Option.some.inj hT).symm
            exact ⟨by rw [hR]; rfl, ((((HB.setCell (p := ⟨w.heap.size, 0, none⟩) (Nat.le_refl _) _).setCell (p := ⟨w.heap.size, 1, none⟩) (Nat.le_refl _) _).setCell (p := ⟨w.heap.size, 2, none⟩) (Nat.le_refl _) _).setCell (p := ⟨w.heap.size, 3, none⟩) (Nat.le_refl _) _).setCell (p := ⟨w.heap.size, 4, none⟩) (Nat.le_refl _) _⟩
end Go.Proofs.YtagdkbncfcdhdaaDoor.Ext

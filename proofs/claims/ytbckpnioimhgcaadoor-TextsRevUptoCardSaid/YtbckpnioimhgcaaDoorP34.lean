-- Written by a program of this session (xprint.py) out of the translation.
import Derived.Test.YtbckpnioimhgcaaDoorP0
import Derived.Test.YtbckpnioimhgcaaDoorP29
import Derived.Test.YtbckpnioimhgcaaDoorStr
import Derived.Test.YtbckpnioimhgcaaDoorTrans
import Derived.Test.YtbckpnioimhgcaaDoorCountW
import Derived.Test.YtbckpnioimhgcaaDoorEvery
namespace Go.Proofs.YtbckpnioimhgcaaDoor.P
open Go.RowKit Go.Proofs.YtbckpnioimhgcaaDoorW.PrintWords Go.Proofs.YtbckpnioimhgcaaDoorW.PrintLast Go.Proofs.YtbckpnioimhgcaaDoor.Ext Go.Proofs.YtbckpnioimhgcaaDoorW.PrintMore
attribute [local go_sem] max2_int min2_int max_two min_two max_three min_three max_four min_four   -- for this text's walks alone
set_option linter.unusedVariables false
set_option linter.unusedSimpArgs false

/-! ### texts_Head: function 14 -/
def texts_Head.f (a0 : ByteArray) (a1 : Int) : Option (ByteArray) := (texts_lines.f a0).bind fun t116 => (if 0 ≤ (mx (mn a1 (t116.length : Int)) 0) then (if (mx (mn a1 (t116.length : Int)) 0) ≤ (t116.length : Int) then ((strings_Join.f (t116.take ((mx (mn a1 (t116.length : Int)) 0) : Int).toNat) (⟨#[]⟩ : ByteArray)).bind fun t123 => (some t123)) else (none)) else (none))
set_option maxHeartbeats 8000000 in
set_option maxRecDepth 100000 in
theorem texts_Head.calls (a0 : ByteArray) (a1 : Int) (r : ByteArray) (w : World) (h : texts_Head.f a0 a1 = some r) :
    Calls Tryd.prog 14 #[.string a0, .int .i64 a1] w fun e w' => e = .returned (.string r) ∧ Below w.heap.size w w' := by
  have HB := Aside0.mk (Below.refl w.heap.size w)
  have H : ((texts_lines.f a0).bind fun t116 => (if 0 ≤ (mx (mn a1 (t116.length : Int)) 0) then (if (mx (mn a1 (t116.length : Int)) 0) ≤ (t116.length : Int) then ((strings_Join.f (t116.take ((mx (mn a1 (t116.length : Int)) 0) : Int).toNat) (⟨#[]⟩ : ByteArray)).bind fun t123 => (some t123)) else (none)) else (none))) = some r := h
  clear h
  replace H := Option.bind_eq_some_iff.mp H
  obtain ⟨t116, A30, H⟩ := H
  replace H : (if 0 ≤ (mx (mn a1 (t116.length : Int)) 0) then (if (mx (mn a1 (t116.length : Int)) 0) ≤ (t116.length : Int) then ((strings_Join.f (t116.take ((mx (mn a1 (t116.length : Int)) 0) : Int).toNat) (⟨#[]⟩ : ByteArray)).bind fun t123 => (some t123)) else (none)) else (none)) = some r := H
  have A3 := Aside0.mk A30
  clear A30
  obtain ⟨ji4, hji4⟩ : ∃ j_ : Int, (mn a1 (t116.length : Int)) = j_ := ⟨_, rfl⟩
  replace H : (if 0 ≤ (mx (ji4) 0) then (if (mx (ji4) 0) ≤ (t116.length : Int) then ((strings_Join.f (t116.take ((mx (ji4) 0) : Int).toNat) (⟨#[]⟩ : ByteArray)).bind fun t123 => (some t123)) else (none)) else (none)) = some r := by first | (rw [hji4] at H; exact H) | (simp only [hji4] at H ⊢; exact H)
  (try rw [hji4] at A3)
  have hji4_ : (if (t116.length : Int) < a1 then (t116.length : Int) else a1) = ji4 := hji4
  obtain ⟨ji5, hji5⟩ : ∃ j_ : Int, (mx (ji4) 0) = j_ := ⟨_, rfl⟩
  replace H : (if 0 ≤ (ji5) then (if (ji5) ≤ (t116.length : Int) then ((strings_Join.f (t116.take ((ji5) : Int).toNat) (⟨#[]⟩ : ByteArray)).bind fun t123 => (some t123)) else (none)) else (none)) = some r := by first | (rw [hji5] at H; exact H) | (simp only [hji5] at H ⊢; exact H)
  (try rw [hji5] at A3)
  have hji5_ : (if (ji4) < 0 then 0 else (ji4)) = ji5 := hji5
  by_cases c6 : 0 ≤ (ji5)
  · rw [if_pos c6] at H
    have c6b0 := eq_true c6
    have c6b1 : decide (0 ≤ (ji5)) = true := decide_eq_true c6
    clear c6
    by_cases c7 : (ji5) ≤ (t116.length : Int)
    · rw [if_pos c7] at H
      have c7b0 := eq_true c7
      have c7b1 : decide ((ji5) ≤ (t116.length : Int)) = true := decide_eq_true c7
      clear c7
      obtain ⟨y119, hy119⟩ : ∃ y_ : List ByteArray, y_ = (t116.take ((ji5) : Int).toNat) := ⟨_, rfl⟩
      replace H : ((strings_Join.f y119 (⟨#[]⟩ : ByteArray)).bind fun t123 => (some t123)) = some r := by first | (rw [hy119]; with_reducible exact H) | (have H2_ := (Option.bind_some _ _).symm.trans H; rw [hy119]; with_reducible exact H2_) | (have H2_ := (Option.bind_some _ _).symm.trans H; with_reducible exact H2_) | with_reducible exact H | (rw [hy119]; exact H) | exact H
      have Ny119 := Aside0.mk hy119
      clear hy119
      replace H := Option.bind_eq_some_iff.mp H
      obtain ⟨t123, A80, H⟩ := H
      replace H : (some t123) = some r := H
      have A8 := Aside0.mk A80
      clear A80
      obtain rfl := Option.some.inj H
      go_enter Tryd.func14, Tryd.ntmps14
      go_wp2_with (first | ((with_reducible refine gate_callee (f := 30) rfl ?_); refine goesL_ (some 7) rfl rfl Tryd.func30 (by kernel_rfl) rfl #[.string a0] rfl (by (try simp only [List.map_toArray, List.map_cons, List.map_nil]); first | done | rfl | (simp only [List.length_drop, List.length_take]; rfl)) ?_; (with_reducible refine (texts_lines.calls a0 t116 _ A3.out).mono ?_); rintro e w9 ⟨v117, rfl, ho0, hb⟩; refine ⟨_, rfl, ?_⟩; have n0_ := Aside0.mk (Kd.R_lower ho0 (below_size (by repeat (first | (with_reducible first | exact HB.out | apply below_alloc | apply pw_below_drewN | apply below_drew1) | exact HB.out)))); have n1_ := Aside0.mk (below_step (by repeat (first | (with_reducible first | exact HB.out | apply below_alloc | apply pw_below_drewN | apply below_drew1) | exact HB.out)) hb); clear HB; have HO118 := n0_; have HB := n1_; clear n0_ n1_; (try clear hb); (try clear hb2); (try clear hk); (try clear hi); (try clear ho0); obtain ⟨Ao10, co10, eo10⟩ := Kd.R_slice HO118.out; subst eo10; have q11 : ((ji5) : Int) ≤ ((t116.length : Int) : Int) := of_decide_eq_true (by first | (with_reducible assumption) | assumption); obtain ⟨i011, hi011, _, hsz11, _⟩ := info_parts info9; have hroom11 : t116.length ≤ co10 := (Kd.R_reads' HO118.out).2.1; have hC11 : Kd.C Kd.string _ Ao10 t116.length t116 := (Kd.R_reads' HO118.out).2.2; have hcut11 := cut_to (P := Tryd.prog) 35 9 .i64 Tryd.underlying35 hi011 Ao10 t116.length co10 (ji5) (of_decide_eq_true (by first | (with_reducible assumption) | assumption)) q11 hroom11; have hr11 := Kd.C_take (m := ((ji5) : Int).toNat) hC11 (by omega); have hy11 : y119.length = ((ji5) : Int).toNat := (by rw [Ny119.out, List.length_take]; omega); rw [← Ny119.out] at hr11; rw [← hy11] at hcut11; have HR122 := Aside0.mk hr11; have HC122 := Aside0.mk (show y119.length ≤ co10 from by omega); clear hr11 hC11 hroom11 hi011 hsz11; have KY11 := Aside0.mk hy11; clear hy11; have KL11 := Aside0.mk (show ((ji5) : Int).toNat ≤ t116.length from by omega); replace q11 := eq_true q11) | ((with_reducible refine gate_callee (f := 31) rfl ?_); refine goesL_ (some 15) rfl rfl Tryd.func31 (by kernel_rfl) rfl #[.slice Ao10 y119.length co10, .string (⟨#[]⟩ : ByteArray)] rfl (by (try simp only [List.map_toArray, List.map_cons, List.map_nil]); first | done | rfl | (simp only [List.length_drop, List.length_take]; rfl)) ?_; (with_reducible refine (strings_Join.calls _ _ y119 (⟨#[]⟩ : ByteArray) t123 _ ?side1 ?side2 A8.out).mono ?_); (case side1 => repeat (first | exact (by repeat (first | (with_reducible exact HR122.out) | (with_reducible refine Kd.C_alloc ?_ _) | (with_reducible refine Kd.C_drewN ?_ _) | (with_reducible refine Kd.C_drew ?_) | exact HR122.out)) | (with_reducible refine Kd.C_alloc ?_ _) | (with_reducible refine Kd.C_drewN ?_ _) | (with_reducible refine Kd.C_drew ?_))); (case side2 => exact HC122.out); rintro e w12 ⟨rfl, hb⟩; refine ⟨_, rfl, ?_⟩; have n0_ := Aside0.mk (Kd.R_below (by (with_reducible repeat (first | apply Kd.R_alloc | apply Kd.R_drewN | apply Kd.R_drew)); exact HO118.out) hb); have n1_ := Aside0.mk (Kd.C_below (by repeat (first | (with_reducible exact HR122.out) | (with_reducible refine Kd.C_alloc ?_ _) | (with_reducible refine Kd.C_drewN ?_ _) | (with_reducible refine Kd.C_drew ?_) | exact HR122.out)) hb); have n2_ := Aside0.mk (below_step (by repeat (first | (with_reducible first | exact HB.out | apply below_alloc | apply pw_below_drewN | apply below_drew1) | exact HB.out)) hb); clear HO118; clear HR122; clear HB; have HO118 := n0_; have HR122 := n1_; have HB := n2_; clear n0_ n1_ n2_; (try clear hb); (try clear hb2); (try clear hk); (try clear hi)))
      go_ret
      exact ⟨by first | rfl | (simp [errW_none, errW_some] <;> rfl) | (simp only [← hji4, ← hji5]; first | rfl | (simp [errW_none, errW_some] <;> rfl)) | (simp [*, errW_none, errW_some] <;> rfl), by repeat (first | (with_reducible first | exact HB.out | apply below_alloc | apply pw_below_drewN | apply below_drew1) | exact HB.out)⟩
    · rw [if_neg c7] at H
      exact absurd H (by simp)
  · rw [if_neg c6] at H
    exact absurd H (by simp)

end Go.Proofs.YtbckpnioimhgcaaDoor.P

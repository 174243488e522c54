-- Written by a program of this session (xprint.py) out of the translation.
import Derived.Test.YtbckpnioimhgcaaDoorP0
import Derived.Test.YtbckpnioimhgcaaDoorP29
import Derived.Test.YtbckpnioimhgcaaDoorStr
import Derived.Test.YtbckpnioimhgcaaDoorTrans
import Derived.Test.YtbckpnioimhgcaaDoorCountW
import Derived.Test.YtbckpnioimhgcaaDoorEvery
namespace Go.Proofs.YtbckpnioimhgcaaDoor.P
open Go.RowKit Go.Proofs.YtbckpnioimhgcaaDoorW.PrintWords Go.Proofs.YtbckpnioimhgcaaDoorW.PrintLast Go.Proofs.YtbckpnioimhgcaaDoor.Ext Go.Proofs.YtbckpnioimhgcaaDoorW.PrintMore
attribute [local go_sem] max2_int min2_int max_two min_two max_three min_three max_four min_four   -- for this text's walks alone
set_option linter.unusedVariables false
set_option linter.unusedSimpArgs false

/-! ### texts_Tail: function 15 -/
def texts_Tail.f (a0 : ByteArray) (a1 : Int) : Option (ByteArray) := (texts_lines.f a0).bind fun t153 => (if 0 ≤ (wrap64 ((t153.length : Int) - (mx (mn a1 (t153.length : Int)) 0))) then (if (wrap64 ((t153.length : Int) - (mx (mn a1 (t153.length : Int)) 0))) ≤ (t153.length : Int) then ((strings_Join.f (t153.drop ((wrap64 ((t153.length : Int) - (mx (mn a1 (t153.length : Int)) 0))) : Int).toNat) (⟨#[]⟩ : ByteArray)).bind fun t160 => (some t160)) else (none)) else (none))
set_option maxHeartbeats 8000000 in
set_option maxRecDepth 100000 in
theorem texts_Tail.calls (a0 : ByteArray) (a1 : Int) (r : ByteArray) (w : World) (h : texts_Tail.f a0 a1 = some r) :
    Calls Tryd.prog 15 #[.string a0, .int .i64 a1] w fun e w' => e = .returned (.string r) ∧ Below w.heap.size w w' := by
  have HB := Aside0.mk (Below.refl w.heap.size w)
  have H : ((texts_lines.f a0).bind fun t153 => (if 0 ≤ (wrap64 ((t153.length : Int) - (mx (mn a1 (t153.length : Int)) 0))) then (if (wrap64 ((t153.length : Int) - (mx (mn a1 (t153.length : Int)) 0))) ≤ (t153.length : Int) then ((strings_Join.f (t153.drop ((wrap64 ((t153.length : Int) - (mx (mn a1 (t153.length : Int)) 0))) : Int).toNat) (⟨#[]⟩ : ByteArray)).bind fun t160 => (some t160)) else (none)) else (none))) = some r := h
  clear h
  replace H := Option.bind_eq_some_iff.mp H
  obtain ⟨t153, A30, H⟩ := H
  replace H : (if 0 ≤ (wrap64 ((t153.length : Int) - (mx (mn a1 (t153.length : Int)) 0))) then (if (wrap64 ((t153.length : Int) - (mx (mn a1 (t153.length : Int)) 0))) ≤ (t153.length : Int) then ((strings_Join.f (t153.drop ((wrap64 ((t153.length : Int) - (mx (mn a1 (t153.length : Int)) 0))) : Int).toNat) (⟨#[]⟩ : ByteArray)).bind fun t160 => (some t160)) else (none)) else (none)) = some r := H
  have A3 := Aside0.mk A30
  clear A30
  obtain ⟨ji4, hji4⟩ : ∃ j_ : Int, (mn a1 (t153.length : Int)) = j_ := ⟨_, rfl⟩
  replace H : (if 0 ≤ (wrap64 ((t153.length : Int) - (mx (ji4) 0))) then (if (wrap64 ((t153.length : Int) - (mx (ji4) 0))) ≤ (t153.length : Int) then ((strings_Join.f (t153.drop ((wrap64 ((t153.length : Int) - (mx (ji4) 0))) : Int).toNat) (⟨#[]⟩ : ByteArray)).bind fun t160 => (some t160)) else (none)) else (none)) = some r := by first | (rw [hji4] at H; exact H) | (simp only [hji4] at H ⊢; exact H)
  (try rw [hji4] at A3)
  have hji4_ : (if (t153.length : Int) < a1 then (t153.length : Int) else a1) = ji4 := hji4
  obtain ⟨ji5, hji5⟩ : ∃ j_ : Int, (mx (ji4) 0) = j_ := ⟨_, rfl⟩
  replace H : (if 0 ≤ (wrap64 ((t153.length : Int) - (ji5))) then (if (wrap64 ((t153.length : Int) - (ji5))) ≤ (t153.length : Int) then ((strings_Join.f (t153.drop ((wrap64 ((t153.length : Int) - (ji5))) : Int).toNat) (⟨#[]⟩ : ByteArray)).bind fun t160 => (some t160)) else (none)) else (none)) = some r := by first | (rw [hji5] at H; exact H) | (simp only [hji5] at H ⊢; exact H)
  (try rw [hji5] at A3)
  have hji5_ : (if (ji4) < 0 then 0 else (ji4)) = ji5 := hji5
  obtain ⟨ji6, hji6⟩ : ∃ j_ : Int, (wrap64 ((t153.length : Int) - (ji5))) = j_ := ⟨_, rfl⟩
  replace H : (if 0 ≤ (ji6) then (if (ji6) ≤ (t153.length : Int) then ((strings_Join.f (t153.drop ((ji6) : Int).toNat) (⟨#[]⟩ : ByteArray)).bind fun t160 => (some t160)) else (none)) else (none)) = some r := by first | (rw [hji6] at H; exact H) | (simp only [hji6] at H ⊢; exact H)
  (try rw [hji6] at A3)
  have hji6w : (IntKind.i64.wrap ((t153.length : Int) - (ji5))) = ji6 := (i64_w _).trans hji6
  by_cases c7 : 0 ≤ (ji6)
  · rw [if_pos c7] at H
    have c7b0 := eq_true c7
    have c7b1 : decide (0 ≤ (ji6)) = true := decide_eq_true c7
    clear c7
    by_cases c8 : (ji6) ≤ (t153.length : Int)
    · rw [if_pos c8] at H
      have c8b0 := eq_true c8
      have c8b1 : decide ((ji6) ≤ (t153.length : Int)) = true := decide_eq_true c8
      clear c8
      obtain ⟨y156, hy156⟩ : ∃ y_ : List ByteArray, y_ = (t153.drop ((ji6) : Int).toNat) := ⟨_, rfl⟩
      replace H : ((strings_Join.f y156 (⟨#[]⟩ : ByteArray)).bind fun t160 => (some t160)) = some r := by first | (rw [hy156]; with_reducible exact H) | (have H2_ := (Option.bind_some _ _).symm.trans H; rw [hy156]; with_reducible exact H2_) | (have H2_ := (Option.bind_some _ _).symm.trans H; with_reducible exact H2_) | with_reducible exact H | (rw [hy156]; exact H) | exact H
      have Ny156 := Aside0.mk hy156
      clear hy156
      replace H := Option.bind_eq_some_iff.mp H
      obtain ⟨t160, A90, H⟩ := H
      replace H : (some t160) = some r := H
      have A9 := Aside0.mk A90
      clear A90
      obtain rfl := Option.some.inj H
      go_enter Tryd.func15, Tryd.ntmps15
      go_wp2_with (first | ((with_reducible refine gate_callee (f := 30) rfl ?_); refine goesL_ (some 7) rfl rfl Tryd.func30 (by kernel_rfl) rfl #[.string a0] rfl (by (try simp only [List.map_toArray, List.map_cons, List.map_nil]); first | done | rfl | (simp only [List.length_drop, List.length_take]; rfl)) ?_; (with_reducible refine (texts_lines.calls a0 t153 _ A3.out).mono ?_); rintro e w10 ⟨v154, rfl, ho0, hb⟩; refine ⟨_, rfl, ?_⟩; have n0_ := Aside0.mk (Kd.R_lower ho0 (below_size (by repeat (first | (with_reducible first | exact HB.out | apply below_alloc | apply pw_below_drewN | apply below_drew1) | exact HB.out)))); have n1_ := Aside0.mk (below_step (by repeat (first | (with_reducible first | exact HB.out | apply below_alloc | apply pw_below_drewN | apply below_drew1) | exact HB.out)) hb); clear HB; have HO155 := n0_; have HB := n1_; clear n0_ n1_; (try clear hb); (try clear hb2); (try clear hk); (try clear hi); (try clear ho0); obtain ⟨Ao11, co11, eo11⟩ := Kd.R_slice HO155.out; subst eo11; have q12 : ((ji6) : Int) ≤ ((t153.length : Int) : Int) := of_decide_eq_true (by first | (with_reducible assumption) | assumption); obtain ⟨i012, hi012, _, hsz12, _⟩ := info_parts info9; have hroom12 : t153.length ≤ co11 := (Kd.R_reads' HO155.out).2.1; have hC12 : Kd.C Kd.string _ Ao11 t153.length t153 := (Kd.R_reads' HO155.out).2.2; have q012 : (0 : Int) ≤ ((ji6) : Int) := of_decide_eq_true (by first | (with_reducible assumption) | assumption); have hcut12 := cut_from (P := Tryd.prog) 35 9 .i64 Tryd.underlying35 hi012 1 hsz12 Ao11 t153.length co11 (ji6) q012 q12; have hr12 := Kd.C_drop (m := ((ji6) : Int).toNat) (c := co11) hC12 (by omega) hroom12; obtain ⟨A12, hA12⟩ : ∃ A1, A1 = (if co11 = ((ji6) : Int).toNat then Ao11 else (Ao11 : Option Addr).map (·.add (((ji6) : Int).toNat * 1))) := ⟨_, rfl⟩; obtain ⟨c12, hc12⟩ : ∃ c1, c1 = co11 - ((ji6) : Int).toNat := ⟨_, rfl⟩; have hy12 : y156.length = t153.length - ((ji6) : Int).toNat := (by rw [Ny156.out, List.length_drop] <;> omega); rw [show (t153).drop ((ji6) : Int).toNat = y156 from Ny156.out.symm] at hr12; replace hr12 : Kd.C Kd.string _ A12 y156.length y156 := (by rw [hA12]; exact hr12); rw [← hy12, ← hA12, ← hc12] at hcut12; have HR159 := Aside0.mk hr12; have HC159 := Aside0.mk (show y156.length ≤ c12 from by rw [hy12, hc12]; exact Nat.sub_le_sub_right hroom12 _); clear hr12 hC12 hroom12 hi012 hsz12 hc12; have KY12 := Aside0.mk hy12; have KA12 := Aside0.mk hA12; clear hy12 hA12; have KL12 := Aside0.mk (show ((ji6) : Int).toNat ≤ t153.length from by omega); replace q12 := eq_true q12) | ((with_reducible refine gate_callee (f := 31) rfl ?_); refine goesL_ (some 18) rfl rfl Tryd.func31 (by kernel_rfl) rfl #[.slice A12 y156.length c12, .string (⟨#[]⟩ : ByteArray)] rfl (by (try simp only [List.map_toArray, List.map_cons, List.map_nil]); first | done | rfl | (simp only [List.length_drop, List.length_take]; rfl)) ?_; (with_reducible refine (strings_Join.calls _ _ y156 (⟨#[]⟩ : ByteArray) t160 _ ?side1 ?side2 A9.out).mono ?_); (case side1 => repeat (first | exact (by repeat (first | (with_reducible exact HR159.out) | (with_reducible refine Kd.C_alloc ?_ _) | (with_reducible refine Kd.C_drewN ?_ _) | (with_reducible refine Kd.C_drew ?_) | exact HR159.out)) | (with_reducible refine Kd.C_alloc ?_ _) | (with_reducible refine Kd.C_drewN ?_ _) | (with_reducible refine Kd.C_drew ?_))); (case side2 => exact HC159.out); rintro e w13 ⟨rfl, hb⟩; refine ⟨_, rfl, ?_⟩; have n0_ := Aside0.mk (Kd.R_below (by (with_reducible repeat (first | apply Kd.R_alloc | apply Kd.R_drewN | apply Kd.R_drew)); exact HO155.out) hb); have n1_ := Aside0.mk (Kd.C_below (by repeat (first | (with_reducible exact HR159.out) | (with_reducible refine Kd.C_alloc ?_ _) | (with_reducible refine Kd.C_drewN ?_ _) | (with_reducible refine Kd.C_drew ?_) | exact HR159.out)) hb); have n2_ := Aside0.mk (below_step (by repeat (first | (with_reducible first | exact HB.out | apply below_alloc | apply pw_below_drewN | apply below_drew1) | exact HB.out)) hb); clear HO155; clear HR159; clear HB; have HO155 := n0_; have HR159 := n1_; have HB := n2_; clear n0_ n1_ n2_; (try clear hb); (try clear hb2); (try clear hk); (try clear hi)))
      go_ret
      exact ⟨by first | rfl | (simp [errW_none, errW_some] <;> rfl) | (simp only [← hji4, ← hji5, ← hji6]; first | rfl | (simp [errW_none, errW_some] <;> rfl)) | (simp [*, errW_none, errW_some] <;> rfl), by repeat (first | (with_reducible first | exact HB.out | apply below_alloc | apply pw_below_drewN | apply below_drew1) | exact HB.out)⟩
    · rw [if_neg c8] at H
      exact absurd H (by simp)
  · rw [if_neg c7] at H
    exact absurd H (by simp)

end Go.Proofs.YtbckpnioimhgcaaDoor.P

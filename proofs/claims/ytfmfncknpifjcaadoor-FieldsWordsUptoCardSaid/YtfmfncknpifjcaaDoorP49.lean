-- Written by a program of this session (xprint.py) out of the translation.
import Derived.Test.YtfmfncknpifjcaaDoorP0
import Derived.Test.YtfmfncknpifjcaaDoorP5
import Derived.Test.YtfmfncknpifjcaaDoorP47
import Derived.Test.YtfmfncknpifjcaaDoorP48
import Derived.Test.YtfmfncknpifjcaaDoorFields
import Derived.Test.YtfmfncknpifjcaaDoorText
import Derived.Test.YtfmfncknpifjcaaDoorReplace
import Derived.Test.YtfmfncknpifjcaaDoorStrW
namespace Go.Proofs.YtfmfncknpifjcaaDoor.P
open Go.RowKit Go.Proofs.YtfmfncknpifjcaaDoorW.PrintWords Go.Proofs.YtfmfncknpifjcaaDoorW.PrintLast Go.Proofs.YtfmfncknpifjcaaDoor.Ext Go.Proofs.YtfmfncknpifjcaaDoorW.PrintMore
attribute [local go_sem] max2_int min2_int max_two min_two max_three min_three max_four min_four   -- for this text's walks alone
set_option linter.unusedVariables false
set_option linter.unusedSimpArgs false

/-! ### cowrielaw08_FieldsWords: function 3 -/
mutual
def cowrielaw08_FieldsWords.l0 : Nat → Int → List ByteArray → ByteArray → Int → Option (Bool)
  | 0, _, _, _, _ => none
  | k + 1, x1, x5, x6, x7 => if x7 < (x5.length : Int) then (if x7 > 0 then (if x6.size + 1 ≤ 9223372036854775807 then (cowrielaw08_FieldsWords.j1 k x1 x5 (x6 ++ (⟨#[32]⟩ : ByteArray)) x7) else (none)) else (cowrielaw08_FieldsWords.j1 k x1 x5 x6 x7)) else (if (x5.length : Int) ≤ x1 then ((fields_Words.f k x6 x1).bind fun t139 => ((cowrieplain_SameTexts.f k t139 x5).bind fun t142 => (some t142))) else (some false))
def cowrielaw08_FieldsWords.j1 : Nat → Int → List ByteArray → ByteArray → Int → Option (Bool)
  | 0, _, _, _, _ => none
  | k + 1, x1, x5, x6, x7 => if 0 ≤ x7 then (if x7 < (x5.length : Int) then (if x6.size + (rdOf ByteArray.empty x5 x7).size ≤ 9223372036854775807 then (cowrielaw08_FieldsWords.l1 k x1 x5 (x6 ++ (rdOf ByteArray.empty x5 x7)) x7 0) else (none)) else (none)) else (none)
def cowrielaw08_FieldsWords.l1 : Nat → Int → List ByteArray → ByteArray → Int → Int → Option (Bool)
  | 0, _, _, _, _, _ => none
  | k + 1, x1, x5, x6, x7, x8 => if 0 ≤ x7 then (if x7 < (x5.length : Int) then (if x8 < ((rdOf ByteArray.empty x5 x7).size : Int) then (if x7 < (wrap64 (x1 - 1)) then (if 0 ≤ x8 then (if (bt (rdOf ByteArray.empty x5 x7) x8) = 32 then (some false) else (if (bt (rdOf ByteArray.empty x5 x7) x8) = 9 then (some false) else (cowrielaw08_FieldsWords.l1 k x1 x5 x6 x7 (wrap64 (x8 + 1))))) else (none)) else (cowrielaw08_FieldsWords.l1 k x1 x5 x6 x7 (wrap64 (x8 + 1)))) else (cowrielaw08_FieldsWords.l0 k x1 x5 x6 (wrap64 (x7 + 1)))) else (none)) else (none)
end
def cowrielaw08_FieldsWords.f (k : Nat) (a0 : ByteArray) (a1 : Int) : Option (Bool) := (cowrielaw08_alive.f).bind fun t135 => (if t135 = true then ((fields_Words.f k a0 (Int.tmod (wrap64 ((Int.tmod a1 9) + 9)) 9)).bind fun t136 => (cowrielaw08_FieldsWords.l0 k (Int.tmod (wrap64 ((Int.tmod a1 9) + 9)) 9) t136 (⟨#[]⟩ : ByteArray) 0)) else (some false))
theorem cowrielaw08_FieldsWords.mono_l : ∀ k, (∀ y0 y1 y2 y3, LeO (cowrielaw08_FieldsWords.l0 k y0 y1 y2 y3) (cowrielaw08_FieldsWords.l0 (k + 1) y0 y1 y2 y3)) ∧ (∀ y0 y1 y2 y3, LeO (cowrielaw08_FieldsWords.j1 k y0 y1 y2 y3) (cowrielaw08_FieldsWords.j1 (k + 1) y0 y1 y2 y3)) ∧ (∀ y0 y1 y2 y3 y4, LeO (cowrielaw08_FieldsWords.l1 k y0 y1 y2 y3 y4) (cowrielaw08_FieldsWords.l1 (k + 1) y0 y1 y2 y3 y4))
  | 0 => ⟨fun _ _ _ _ r h => by simp [cowrielaw08_FieldsWords.l0] at h, fun _ _ _ _ r h => by simp [cowrielaw08_FieldsWords.j1] at h, fun _ _ _ _ _ r h => by simp [cowrielaw08_FieldsWords.l1] at h⟩
  | k + 1 => by
    obtain ⟨ih0, ih1, ih2⟩ := cowrielaw08_FieldsWords.mono_l k
    refine ⟨?_, ?_, ?_⟩
    · intro y0 y1 y2 y3
      unfold cowrielaw08_FieldsWords.l0
      repeat' first
      | (with_reducible exact ih0 _ _ _ _)
      | (with_reducible exact ih1 _ _ _ _)
      | (with_reducible exact ih2 _ _ _ _ _)
      | (with_reducible exact cowrieplain_SameTexts.mono _ _ _)
      | (with_reducible exact fields_Words.mono _ _ _)
      | (with_reducible exact LeO.refl _)
      | (with_reducible exact LeO.none _)
      | (with_reducible refine LeO.ite ?_ ?_)
      | (with_reducible refine LeO.bind ?_ (fun _ => ?_))
      | exact ih0 _ _ _ _
      | exact ih1 _ _ _ _
      | exact ih2 _ _ _ _ _
      | exact cowrieplain_SameTexts.mono _ _ _
      | exact fields_Words.mono _ _ _
      | exact LeO.none _
      | refine LeO.ite ?_ ?_
      | refine LeO.bind ?_ (fun _ => ?_)
    · intro y0 y1 y2 y3
      unfold cowrielaw08_FieldsWords.j1
      repeat' first
      | (with_reducible exact ih0 _ _ _ _)
      | (with_reducible exact ih1 _ _ _ _)
      | (with_reducible exact ih2 _ _ _ _ _)
      | (with_reducible exact cowrieplain_SameTexts.mono _ _ _)
      | (with_reducible exact fields_Words.mono _ _ _)
      | (with_reducible exact LeO.refl _)
      | (with_reducible exact LeO.none _)
      | (with_reducible refine LeO.ite ?_ ?_)
      | (with_reducible refine LeO.bind ?_ (fun _ => ?_))
      | exact ih0 _ _ _ _
      | exact ih1 _ _ _ _
      | exact ih2 _ _ _ _ _
      | exact cowrieplain_SameTexts.mono _ _ _
      | exact fields_Words.mono _ _ _
      | exact LeO.none _
      | refine LeO.ite ?_ ?_
      | refine LeO.bind ?_ (fun _ => ?_)
    · intro y0 y1 y2 y3 y4
      unfold cowrielaw08_FieldsWords.l1
      repeat' first
      | (with_reducible exact ih0 _ _ _ _)
      | (with_reducible exact ih1 _ _ _ _)
      | (with_reducible exact ih2 _ _ _ _ _)
      | (with_reducible exact cowrieplain_SameTexts.mono _ _ _)
      | (with_reducible exact fields_Words.mono _ _ _)
      | (with_reducible exact LeO.refl _)
      | (with_reducible exact LeO.none _)
      | (with_reducible refine LeO.ite ?_ ?_)
      | (with_reducible refine LeO.bind ?_ (fun _ => ?_))
      | exact ih0 _ _ _ _
      | exact ih1 _ _ _ _
      | exact ih2 _ _ _ _ _
      | exact cowrieplain_SameTexts.mono _ _ _
      | exact fields_Words.mono _ _ _
      | exact LeO.none _
      | refine LeO.ite ?_ ?_
      | refine LeO.bind ?_ (fun _ => ?_)
theorem cowrielaw08_FieldsWords.mono : ∀ a0 a1 k, LeO (cowrielaw08_FieldsWords.f k a0 a1) (cowrielaw08_FieldsWords.f (k + 1) a0 a1) := by
  intro a0 a1 k
  obtain ⟨ih0, ih1, ih2⟩ := cowrielaw08_FieldsWords.mono_l k
  unfold cowrielaw08_FieldsWords.f
  repeat' first
      | (with_reducible exact ih0 _ _ _ _)
      | (with_reducible exact ih1 _ _ _ _)
      | (with_reducible exact ih2 _ _ _ _ _)
      | (with_reducible exact cowrieplain_SameTexts.mono _ _ _)
      | (with_reducible exact fields_Words.mono _ _ _)
      | (with_reducible exact LeO.refl _)
      | (with_reducible exact LeO.none _)
      | (with_reducible refine LeO.ite ?_ ?_)
      | (with_reducible refine LeO.bind ?_ (fun _ => ?_))
      | exact ih0 _ _ _ _
      | exact ih1 _ _ _ _
      | exact ih2 _ _ _ _ _
      | exact cowrieplain_SameTexts.mono _ _ _
      | exact fields_Words.mono _ _ _
      | exact LeO.none _
      | refine LeO.ite ?_ ?_
      | refine LeO.bind ?_ (fun _ => ?_)
set_option maxHeartbeats 8000000 in
set_option maxRecDepth 100000 in
theorem cowrielaw08_FieldsWords.calls (k : Nat) (a0 : ByteArray) (a1 : Int) (r : Bool) (w : World) (h : cowrielaw08_FieldsWords.f k a0 a1 = some r) :
    Calls Tryd.prog 3 #[.string a0, .int .i64 a1] w fun e w' => e = .returned (.bool r) ∧ Below w.heap.size w w' := by
  have HB := Aside0.mk (Below.refl w.heap.size w)
  have H : ((cowrielaw08_alive.f).bind fun t135 => (if t135 = true then ((fields_Words.f k a0 (Int.tmod (wrap64 ((Int.tmod a1 9) + 9)) 9)).bind fun t136 => (cowrielaw08_FieldsWords.l0 k (Int.tmod (wrap64 ((Int.tmod a1 9) + 9)) 9) t136 (⟨#[]⟩ : ByteArray) 0)) else (some false))) = some r := h
  clear h
  replace H := Option.bind_eq_some_iff.mp H
  obtain ⟨t135, A30, H⟩ := H
  replace H : (if t135 = true then ((fields_Words.f k a0 (Int.tmod (wrap64 ((Int.tmod a1 9) + 9)) 9)).bind fun t136 => (cowrielaw08_FieldsWords.l0 k (Int.tmod (wrap64 ((Int.tmod a1 9) + 9)) 9) t136 (⟨#[]⟩ : ByteArray) 0)) else (some false)) = some r := H
  have A3 := Aside0.mk A30
  clear A30
  by_cases c4 : t135 = true
  · subst c4
    have H1 : ((fields_Words.f k a0 (Int.tmod (wrap64 ((Int.tmod a1 9) + 9)) 9)).bind fun t136 => (cowrielaw08_FieldsWords.l0 k (Int.tmod (wrap64 ((Int.tmod a1 9) + 9)) 9) t136 (⟨#[]⟩ : ByteArray) 0)) = some r := by rw [if_pos rfl] at H; exact H
    clear H
    have H := H1
    clear H1
    replace H := Option.bind_eq_some_iff.mp H
    obtain ⟨t136, A50, H⟩ := H
    replace H : (cowrielaw08_FieldsWords.l0 k (Int.tmod (wrap64 ((Int.tmod a1 9) + 9)) 9) t136 (⟨#[]⟩ : ByteArray) 0) = some r := H
    have A5 := Aside0.mk A50
    clear A50
    have H' := Aside0.mk H
    clear H
    go_enter Tryd.func3, Tryd.ntmps3
    go_wp2_with (first | ((with_reducible refine gate_callee (f := 5) rfl ?_); refine goesL_ (some 9) rfl rfl Tryd.func5 (by kernel_rfl) rfl #[] rfl (by (try simp only [List.map_toArray, List.map_cons, List.map_nil]); first | done | rfl | (simp only [List.length_drop, List.length_take]; rfl)) ?_; (with_reducible refine (cowrielaw08_alive.calls  true _ A3.out).mono ?_); rintro e w6 ⟨rfl, hb⟩; refine ⟨_, rfl, ?_⟩; have n0_ := Aside0.mk (below_step (by repeat (first | (with_reducible first | exact HB.out | apply below_alloc | apply pw_below_drewN | apply below_drew1) | exact HB.out)) hb); clear HB; have HB := n0_; clear n0_; (try clear hb); (try clear hb2); (try clear hk); (try clear hi)) | ((with_reducible refine gate_callee (f := 6) rfl ?_); refine goesL_ (some 17) rfl rfl Tryd.func6 (by kernel_rfl) rfl #[.string a0, .int .i64 (Int.tmod (wrap64 ((Int.tmod a1 9) + 9)) 9)] rfl (by (try simp only [List.map_toArray, List.map_cons, List.map_nil]); first | done | rfl | (simp only [List.length_drop, List.length_take]; rfl)) ?_; (with_reducible refine (fields_Words.calls k a0 (Int.tmod (wrap64 ((Int.tmod a1 9) + 9)) 9) t136 _ A5.out).mono ?_); rintro e w7 ⟨v137, rfl, ho0, hb⟩; refine ⟨_, rfl, ?_⟩; have n0_ := Aside0.mk (Kd.R_lower ho0 (below_size (by repeat (first | (with_reducible first | exact HB.out | apply below_alloc | apply pw_below_drewN | apply below_drew1) | exact HB.out)))); have n1_ := Aside0.mk (below_step (by repeat (first | (with_reducible first | exact HB.out | apply below_alloc | apply pw_below_drewN | apply below_drew1) | exact HB.out)) hb); clear HB; have HO138 := n0_; have HB := n1_; clear n0_ n1_; (try clear hb); (try clear hb2); (try clear hk); (try clear hi); (try clear ho0)))
    go_loopg [6, 7] k (fun kq v6 v7 w' => ∃ (x6_1 : ByteArray) (x7_1 : Int), v6 = .string x6_1 ∧ v7 = .int .i64 x7_1 ∧ Aside0 (cowrielaw08_FieldsWords.l0 kq (Int.tmod (wrap64 ((Int.tmod a1 9) + 9)) 9) t136 x6_1 x7_1 = some r) ∧ Aside0 (kq ≤ k) ∧ Aside0 (Kd.R Kd.string 9 w' w.heap.size (fun _ => True) v137 t136) ∧ Aside0 (Below w.heap.size w w'))
    case atStart => exact ⟨((⟨#[]⟩ : ByteArray)), (0), (by first | rfl | (simp; done) | (simp [*]; done)), (by first | rfl | (simp; done) | (simp [*]; done)), H', ⟨Nat.le_refl _⟩, ⟨by (with_reducible repeat (first | apply Kd.R_alloc | apply Kd.R_drewN | apply Kd.R_drew)); exact HO138.out⟩, ⟨by repeat (first | (with_reducible first | exact HB.out | apply below_alloc | apply pw_below_drewN | apply below_drew1) | exact HB.out)⟩⟩
    case round =>
      clear H'
      try clear p2
      try clear c3
      try clear c4
      try clear c5
      try clear c6
      try clear p6
      obtain ⟨x6_1, x7_1, rfl, rfl, HA, HK1, HO_5, HB⟩ := hrel
      cases gk with
      | zero => exact absurd HA.out (by simp [cowrielaw08_FieldsWords.l0])
      | succ k1 =>
        have H := HA.out
        clear HA
        simp only [cowrielaw08_FieldsWords.l0] at H
        by_cases c8 : x7_1 < (t136.length : Int)
        · rw [if_pos c8] at H
          have c8b0 : decide (x7_1 < (t136.length : Int)) = true := decide_eq_true c8
          clear c8
          have HC9 := Aside0.mk H
          clear H
          obtain ⟨Ao10, co10, eo10⟩ := Kd.R_slice HO_5.out
          subst eo10
          go_upto_if 25 with (fail)
          go_cut [6] (fun v6 wc => ∃ (kq : Nat) (x6_8 : ByteArray), v6 = .string x6_8 ∧ Aside0 (cowrielaw08_FieldsWords.j1 kq (Int.tmod (wrap64 ((Int.tmod a1 9) + 9)) 9) t136 x6_8 x7_1 = some r) ∧ Aside0 (kq ≤ k1) ∧ Aside0 (Kd.R Kd.string 9 wc w.heap.size (fun _ => True) (.slice Ao10 t136.length co10) t136) ∧ Aside0 (Below w.heap.size w wc))
          case first =>
            have H := HC9.out
            clear HC9
            by_cases c11 : x7_1 > 0
            · rw [if_pos c11] at H
              have c11b0 : decide (0 < x7_1) = true := decide_eq_true c11
              clear c11
              (first | rw [c11b0] | (simp only [i64_w, i32_w]; rw [c11b0]) | skip)
              by_cases c12 : x6_1.size + 1 ≤ 9223372036854775807
              · rw [if_pos c12] at H
                have c12b0 := eq_true c12
                have c12b1 : decide (x6_1.size + 1 ≤ 9223372036854775807) = true := decide_eq_true c12
                try have c12b2 : (9223372036854775807 < x6_1.size + 1) = False := eq_false (Nat.not_lt.2 c12)
                have H' := Aside0.mk H
                clear H
                go_wp2
                go_meet
                case rel => exact ⟨_, (x6_1 ++ (⟨#[32]⟩ : ByteArray)), (by first | rfl | (simp; done) | (simp [*]; done)), H', ⟨by have := HK1.out; first | omega | exact Nat.le_refl _⟩, ⟨by (with_reducible repeat (first | apply Kd.R_alloc | apply Kd.R_drewN | apply Kd.R_drew)); exact HO_5.out⟩, ⟨by repeat (first | (with_reducible first | exact HB.out | apply below_alloc | apply pw_below_drewN | apply below_drew1) | exact HB.out)⟩⟩
              · rw [if_neg c12] at H
                exact absurd H (by simp)
            · rw [if_neg c11] at H
              have c11b0 : decide (0 < x7_1) = false := decide_eq_false c11
              clear c11
              (first | rw [c11b0] | (simp only [i64_w, i32_w]; rw [c11b0]) | skip)
              have H' := Aside0.mk H
              clear H
              go_wp2
              go_meet
              case rel => exact ⟨_, (x6_1), (by first | rfl | (simp; done) | (simp [*]; done)), H', ⟨by have := HK1.out; first | omega | exact Nat.le_refl _⟩, ⟨by (with_reducible repeat (first | apply Kd.R_alloc | apply Kd.R_drewN | apply Kd.R_drew)); exact HO_5.out⟩, ⟨by repeat (first | (with_reducible first | exact HB.out | apply below_alloc | apply pw_below_drewN | apply below_drew1) | exact HB.out)⟩⟩
          case rest =>
            clear HC9
            try clear c1
            try clear p2
            try clear c3
            try clear c4
            try clear c5
            try clear c6
            try clear p6
            try clear c8
            try clear c8b0
            try clear c11
            try clear c11b0
            try clear c12
            try clear c12b0
            try clear c12b1
            try clear c12b2
            try clear p2
            try clear p6
            obtain ⟨kq, x6_8, rfl, HA, HJ8, HO_5, HB⟩ := hcut
            cases kq with
            | zero => exact absurd HA.out (by simp [cowrielaw08_FieldsWords.j1])
            | succ kj8 =>
              have H := HA.out
              clear HA
              simp only [cowrielaw08_FieldsWords.j1] at H
              by_cases c13 : 0 ≤ x7_1
              · rw [if_pos c13] at H
                have c13b0 : decide (0 ≤ x7_1) = true := decide_eq_true c13
                clear c13
                by_cases c14 : x7_1 < (t136.length : Int)
                · rw [if_pos c14] at H
                  have c14b0 : decide (x7_1 < (t136.length : Int)) = true := decide_eq_true c14
                  clear c14
                  by_cases c15 : x6_8.size + (rdOf ByteArray.empty t136 x7_1).size ≤ 9223372036854775807
                  · rw [if_pos c15] at H
                    have c15b0 := eq_true c15
                    have c15b1 : decide (x6_8.size + (rdOf ByteArray.empty t136 x7_1).size ≤ 9223372036854775807) = true := decide_eq_true c15
                    try have c15b2 : (9223372036854775807 < x6_8.size + (rdOf ByteArray.empty t136 x7_1).size) = False := eq_false (Nat.not_lt.2 c15)
                    have H' := Aside0.mk H
                    clear H
                    have p143 : 0 ≤ (x7_1 : Int) := of_decide_eq_true (by first | (with_reducible assumption) | assumption)
                    have q143 : x7_1 < (t136.length : Int) := of_decide_eq_true (by first | (with_reducible assumption) | assumption)
                    obtain ⟨ad143, e143, hx143_0⟩ := Kd.at_string (Kd.R_reads' HO_5.out).2.2 x7_1 p143 q143
                    cases e143
                    replace p143 := eq_true p143
                    replace q143 := eq_true q143
                    go_wp2
                    go_loopg [8] kj8 (fun kq v8 w' => ∃ (x8_3 : Int), v8 = .int .i64 x8_3 ∧ Aside0 (cowrielaw08_FieldsWords.l1 kq (Int.tmod (wrap64 ((Int.tmod a1 9) + 9)) 9) t136 (x6_8 ++ (rdOf ByteArray.empty t136 x7_1)) x7_1 x8_3 = some r) ∧ Aside0 (kq ≤ kj8) ∧ Aside0 (Kd.R Kd.string 9 w' w.heap.size (fun _ => True) (.slice (some ad143) t136.length co10) t136) ∧ Aside0 (Below w.heap.size w w'))
                    case atStart => exact ⟨(0), (by first | rfl | (simp; done) | (simp [*]; done)), H', ⟨Nat.le_refl _⟩, ⟨by (with_reducible repeat (first | apply Kd.R_alloc | apply Kd.R_drewN | apply Kd.R_drew)); exact HO_5.out⟩, ⟨by repeat (first | (with_reducible first | exact HB.out | apply below_alloc | apply pw_below_drewN | apply below_drew1) | exact HB.out)⟩⟩
                    case round =>
                      clear H'
                      try clear c1
                      try clear p1
                      try clear q1
                      try clear hx1
                      try clear p2
                      try clear c3
                      try clear c4
                      try clear c5
                      try clear c6
                      try clear p6
                      try clear c8
                      try clear c8b0
                      try clear c11
                      try clear c11b0
                      try clear c12
                      try clear c12b0
                      try clear c12b1
                      try clear c12b2
                      try clear c13
                      try clear c13b0
                      try clear c14
                      try clear c14b0
                      try clear p14
                      try clear q14
                      try clear hx14
                      try clear c15
                      try clear c15b0
                      try clear c15b1
                      try clear c15b2
                      try clear hx143_0
                      try clear p143
                      try clear p2
                      try clear p6
                      try clear q143
                      obtain ⟨x8_3, rfl, HA, HK3, HO_5, HB⟩ := hrel
                      cases gk with
                      | zero => exact absurd HA.out (by simp [cowrielaw08_FieldsWords.l1])
                      | succ k3 =>
                        have H := HA.out
                        clear HA
                        simp only [cowrielaw08_FieldsWords.l1] at H
                        by_cases c16 : 0 ≤ x7_1
                        · rw [if_pos c16] at H
                          have c16b0 : decide (0 ≤ x7_1) = true := decide_eq_true c16
                          clear c16
                          by_cases c17 : x7_1 < (t136.length : Int)
                          · rw [if_pos c17] at H
                            have c17b0 : decide (x7_1 < (t136.length : Int)) = true := decide_eq_true c17
                            clear c17
                            by_cases c18 : x8_3 < ((rdOf ByteArray.empty t136 x7_1).size : Int)
                            · rw [if_pos c18] at H
                              have c18b0 : decide (x8_3 < ((rdOf ByteArray.empty t136 x7_1).size : Int)) = true := decide_eq_true c18
                              clear c18
                              by_cases c19 : x7_1 < (wrap64 ((Int.tmod (wrap64 ((Int.tmod a1 9) + 9)) 9) - 1))
                              · rw [if_pos c19] at H
                                have c19b0 : decide (x7_1 < (wrap64 ((Int.tmod (wrap64 ((Int.tmod a1 9) + 9)) 9) - 1))) = true := decide_eq_true c19
                                clear c19
                                by_cases c20 : 0 ≤ x8_3
                                · rw [if_pos c20] at H
                                  have c20b0 : decide (0 ≤ x8_3) = true := decide_eq_true c20
                                  clear c20
                                  by_cases c22 : (bt (rdOf ByteArray.empty t136 x7_1) x8_3) = 32
                                  · rw [if_pos c22] at H
                                    have c22b0 : ((bt (rdOf ByteArray.empty t136 x7_1) x8_3) == 32) = true := beq_iff_eq.mpr c22
                                    have c22b1 : ((bt (rdOf ByteArray.empty t136 x7_1) x8_3) != 32) = false := bne_eq_false_iff_eq.mpr c22
                                    clear c22
                                    obtain rfl := Option.some.inj H
                                    have p144 : 0 ≤ (x7_1 : Int) := of_decide_eq_true (by first | (with_reducible assumption) | assumption)
                                    have q144 : x7_1 < (t136.length : Int) := of_decide_eq_true (by first | (with_reducible assumption) | assumption)
                                    obtain ⟨ad144, e144, hx144_0⟩ := Kd.at_string (Kd.R_reads' HO_5.out).2.2 x7_1 p144 q144
                                    obtain rfl : ad143 = ad144 := (by injection e144)
                                    replace p144 := eq_true p144
                                    replace q144 := eq_true q144
                                    have p145 : 0 ≤ (x7_1 : Int) := of_decide_eq_true (by first | (with_reducible assumption) | assumption)
                                    have q145 : x7_1 < (t136.length : Int) := of_decide_eq_true (by first | (with_reducible assumption) | assumption)
                                    obtain ⟨ad145, e145, hx145_0⟩ := Kd.at_string (Kd.R_reads' HO_5.out).2.2 x7_1 p145 q145
                                    obtain rfl : ad143 = ad145 := (by injection e145)
                                    replace p145 := eq_true p145
                                    replace q145 := eq_true q145
                                    have p21 : 0 ≤ (x8_3 : Int) := of_decide_eq_true (by first | (with_reducible assumption) | assumption)
                                    have q21 : x8_3 < ((rdOf ByteArray.empty t136 x7_1).size : Int) := of_decide_eq_true (by first | (with_reducible assumption) | assumption)
                                    have hx21 := bt_at (rdOf ByteArray.empty t136 x7_1) x8_3
                                    replace p21 := eq_true p21
                                    replace q21 := eq_true q21
                                    go_wp2
                                    go_ret
                                    exact ⟨by first | rfl | (simp [errW_none, errW_some] <;> rfl) | (simp [*, errW_none, errW_some] <;> rfl), by repeat (first | (with_reducible first | exact HB.out | apply below_alloc | apply pw_below_drewN | apply below_drew1) | exact HB.out)⟩
                                  · rw [if_neg c22] at H
                                    have c22b0 : ((bt (rdOf ByteArray.empty t136 x7_1) x8_3) == 32) = false := beq_eq_false_iff_ne.mpr c22
                                    have c22b1 : ((bt (rdOf ByteArray.empty t136 x7_1) x8_3) != 32) = true := bne_iff_ne.mpr c22
                                    by_cases c24 : (bt (rdOf ByteArray.empty t136 x7_1) x8_3) = 9
                                    · rw [if_pos c24] at H
                                      have c24b0 : ((bt (rdOf ByteArray.empty t136 x7_1) x8_3) == 9) = true := beq_iff_eq.mpr c24
                                      have c24b1 : ((bt (rdOf ByteArray.empty t136 x7_1) x8_3) != 9) = false := bne_eq_false_iff_eq.mpr c24
                                      clear c24
                                      obtain rfl := Option.some.inj H
                                      have p144 : 0 ≤ (x7_1 : Int) := of_decide_eq_true (by first | (with_reducible assumption) | assumption)
                                      have q144 : x7_1 < (t136.length : Int) := of_decide_eq_true (by first | (with_reducible assumption) | assumption)
                                      obtain ⟨ad144, e144, hx144_0⟩ := Kd.at_string (Kd.R_reads' HO_5.out).2.2 x7_1 p144 q144
                                      obtain rfl : ad143 = ad144 := (by injection e144)
                                      replace p144 := eq_true p144
                                      replace q144 := eq_true q144
                                      have p145 : 0 ≤ (x7_1 : Int) := of_decide_eq_true (by first | (with_reducible assumption) | assumption)
                                      have q145 : x7_1 < (t136.length : Int) := of_decide_eq_true (by first | (with_reducible assumption) | assumption)
                                      obtain ⟨ad145, e145, hx145_0⟩ := Kd.at_string (Kd.R_reads' HO_5.out).2.2 x7_1 p145 q145
                                      obtain rfl : ad143 = ad145 := (by injection e145)
                                      replace p145 := eq_true p145
                                      replace q145 := eq_true q145
                                      have p21 : 0 ≤ (x8_3 : Int) := of_decide_eq_true (by first | (with_reducible assumption) | assumption)
                                      have q21 : x8_3 < ((rdOf ByteArray.empty t136 x7_1).size : Int) := of_decide_eq_true (by first | (with_reducible assumption) | assumption)
                                      have hx21 := bt_at (rdOf ByteArray.empty t136 x7_1) x8_3
                                      replace p21 := eq_true p21
                                      replace q21 := eq_true q21
                                      have p146 : 0 ≤ (x7_1 : Int) := of_decide_eq_true (by first | (with_reducible assumption) | assumption)
                                      have q146 : x7_1 < (t136.length : Int) := of_decide_eq_true (by first | (with_reducible assumption) | assumption)
                                      obtain ⟨ad146, e146, hx146_0⟩ := Kd.at_string (Kd.R_reads' HO_5.out).2.2 x7_1 p146 q146
                                      obtain rfl : ad143 = ad146 := (by injection e146)
                                      replace p146 := eq_true p146
                                      replace q146 := eq_true q146
                                      have p23 : 0 ≤ (x8_3 : Int) := of_decide_eq_true (by first | (with_reducible assumption) | assumption)
                                      have q23 : x8_3 < ((rdOf ByteArray.empty t136 x7_1).size : Int) := of_decide_eq_true (by first | (with_reducible assumption) | assumption)
                                      have hx23 := bt_at (rdOf ByteArray.empty t136 x7_1) x8_3
                                      replace p23 := eq_true p23
                                      replace q23 := eq_true q23
                                      go_wp2
                                      go_ret
                                      exact ⟨by first | rfl | (simp [errW_none, errW_some] <;> rfl) | (simp [*, errW_none, errW_some] <;> rfl), by repeat (first | (with_reducible first | exact HB.out | apply below_alloc | apply pw_below_drewN | apply below_drew1) | exact HB.out)⟩
                                    · rw [if_neg c24] at H
                                      have c24b0 : ((bt (rdOf ByteArray.empty t136 x7_1) x8_3) == 9) = false := beq_eq_false_iff_ne.mpr c24
                                      have c24b1 : ((bt (rdOf ByteArray.empty t136 x7_1) x8_3) != 9) = true := bne_iff_ne.mpr c24
                                      have H' := Aside0.mk H
                                      clear H
                                      have p144 : 0 ≤ (x7_1 : Int) := of_decide_eq_true (by first | (with_reducible assumption) | assumption)
                                      have q144 : x7_1 < (t136.length : Int) := of_decide_eq_true (by first | (with_reducible assumption) | assumption)
                                      obtain ⟨ad144, e144, hx144_0⟩ := Kd.at_string (Kd.R_reads' HO_5.out).2.2 x7_1 p144 q144
                                      obtain rfl : ad143 = ad144 := (by injection e144)
                                      replace p144 := eq_true p144
                                      replace q144 := eq_true q144
                                      have p145 : 0 ≤ (x7_1 : Int) := of_decide_eq_true (by first | (with_reducible assumption) | assumption)
                                      have q145 : x7_1 < (t136.length : Int) := of_decide_eq_true (by first | (with_reducible assumption) | assumption)
                                      obtain ⟨ad145, e145, hx145_0⟩ := Kd.at_string (Kd.R_reads' HO_5.out).2.2 x7_1 p145 q145
                                      obtain rfl : ad143 = ad145 := (by injection e145)
                                      replace p145 := eq_true p145
                                      replace q145 := eq_true q145
                                      have p21 : 0 ≤ (x8_3 : Int) := of_decide_eq_true (by first | (with_reducible assumption) | assumption)
                                      have q21 : x8_3 < ((rdOf ByteArray.empty t136 x7_1).size : Int) := of_decide_eq_true (by first | (with_reducible assumption) | assumption)
                                      have hx21 := bt_at (rdOf ByteArray.empty t136 x7_1) x8_3
                                      replace p21 := eq_true p21
                                      replace q21 := eq_true q21
                                      have p146 : 0 ≤ (x7_1 : Int) := of_decide_eq_true (by first | (with_reducible assumption) | assumption)
                                      have q146 : x7_1 < (t136.length : Int) := of_decide_eq_true (by first | (with_reducible assumption) | assumption)
                                      obtain ⟨ad146, e146, hx146_0⟩ := Kd.at_string (Kd.R_reads' HO_5.out).2.2 x7_1 p146 q146
                                      obtain rfl : ad143 = ad146 := (by injection e146)
                                      replace p146 := eq_true p146
                                      replace q146 := eq_true q146
                                      have p23 : 0 ≤ (x8_3 : Int) := of_decide_eq_true (by first | (with_reducible assumption) | assumption)
                                      have q23 : x8_3 < ((rdOf ByteArray.empty t136 x7_1).size : Int) := of_decide_eq_true (by first | (with_reducible assumption) | assumption)
                                      have hx23 := bt_at (rdOf ByteArray.empty t136 x7_1) x8_3
                                      replace p23 := eq_true p23
                                      replace q23 := eq_true q23
                                      go_wp2
                                      go_roundg k3
                                      case measure => have := HK1.out; have := HJ8.out; have := HK3.out; omega
                                      case rel => exact ⟨(wrap64 (x8_3 + 1)), (by first | rfl | (simp; done) | (simp [*]; done)), H', ⟨by have := HK1.out; have := HJ8.out; have := HK3.out; omega⟩, ⟨by (with_reducible repeat (first | apply Kd.R_alloc | apply Kd.R_drewN | apply Kd.R_drew)); exact HO_5.out⟩, ⟨by repeat (first | (with_reducible first | exact HB.out | apply below_alloc | apply pw_below_drewN | apply below_drew1) | exact HB.out)⟩⟩
                                · rw [if_neg c20] at H
                                  exact absurd H (by simp)
                              · rw [if_neg c19] at H
                                have c19b0 : decide (x7_1 < (wrap64 ((Int.tmod (wrap64 ((Int.tmod a1 9) + 9)) 9) - 1))) = false := decide_eq_false c19
                                clear c19
                                have H' := Aside0.mk H
                                clear H
                                have p144 : 0 ≤ (x7_1 : Int) := of_decide_eq_true (by first | (with_reducible assumption) | assumption)
                                have q144 : x7_1 < (t136.length : Int) := of_decide_eq_true (by first | (with_reducible assumption) | assumption)
                                obtain ⟨ad144, e144, hx144_0⟩ := Kd.at_string (Kd.R_reads' HO_5.out).2.2 x7_1 p144 q144
                                obtain rfl : ad143 = ad144 := (by injection e144)
                                replace p144 := eq_true p144
                                replace q144 := eq_true q144
                                go_wp2
                                go_roundg k3
                                case measure => have := HK1.out; have := HJ8.out; have := HK3.out; omega
                                case rel => exact ⟨(wrap64 (x8_3 + 1)), (by first | rfl | (simp; done) | (simp [*]; done)), H', ⟨by have := HK1.out; have := HJ8.out; have := HK3.out; omega⟩, ⟨by (with_reducible repeat (first | apply Kd.R_alloc | apply Kd.R_drewN | apply Kd.R_drew)); exact HO_5.out⟩, ⟨by repeat (first | (with_reducible first | exact HB.out | apply below_alloc | apply pw_below_drewN | apply below_drew1) | exact HB.out)⟩⟩
                            · rw [if_neg c18] at H
                              have c18b0 : decide (x8_3 < ((rdOf ByteArray.empty t136 x7_1).size : Int)) = false := decide_eq_false c18
                              clear c18
                              have H' := Aside0.mk H
                              clear H
                              have p144 : 0 ≤ (x7_1 : Int) := of_decide_eq_true (by first | (with_reducible assumption) | assumption)
                              have q144 : x7_1 < (t136.length : Int) := of_decide_eq_true (by first | (with_reducible assumption) | assumption)
                              obtain ⟨ad144, e144, hx144_0⟩ := Kd.at_string (Kd.R_reads' HO_5.out).2.2 x7_1 p144 q144
                              obtain rfl : ad143 = ad144 := (by injection e144)
                              replace p144 := eq_true p144
                              replace q144 := eq_true q144
                              go_wp2
                              go_roundg k3
                              case measure => have := HK1.out; have := HJ8.out; have := HK3.out; omega
                              case rel => exact ⟨((x6_8 ++ (rdOf ByteArray.empty t136 x7_1))), (wrap64 (x7_1 + 1)), (by first | rfl | (simp; done) | (simp [*]; done)), (by first | rfl | (simp; done) | (simp [*]; done)), H', ⟨by have := HK1.out; have := HJ8.out; have := HK3.out; omega⟩, ⟨by (with_reducible repeat (first | apply Kd.R_alloc | apply Kd.R_drewN | apply Kd.R_drew)); exact HO_5.out⟩, ⟨by repeat (first | (with_reducible first | exact HB.out | apply below_alloc | apply pw_below_drewN | apply below_drew1) | exact HB.out)⟩⟩
                          · rw [if_neg c17] at H
                            exact absurd H (by simp)
                        · rw [if_neg c16] at H
                          exact absurd H (by simp)
                  · rw [if_neg c15] at H
                    exact absurd H (by simp)
                · rw [if_neg c14] at H
                  exact absurd H (by simp)
              · rw [if_neg c13] at H
                exact absurd H (by simp)
        · rw [if_neg c8] at H
          have c8b0 : decide (x7_1 < (t136.length : Int)) = false := decide_eq_false c8
          clear c8
          by_cases c25 : (t136.length : Int) ≤ (Int.tmod (wrap64 ((Int.tmod a1 9) + 9)) 9)
          · rw [if_pos c25] at H
            have c25b0 : decide ((t136.length : Int) ≤ (Int.tmod (wrap64 ((Int.tmod a1 9) + 9)) 9)) = true := decide_eq_true c25
            clear c25
            replace H := Option.bind_eq_some_iff.mp H
            obtain ⟨t139, A260, H⟩ := H
            replace H : ((cowrieplain_SameTexts.f k1 t139 t136).bind fun t142 => (some t142)) = some r := H
            have A26 := Aside0.mk A260
            clear A260
            replace H := Option.bind_eq_some_iff.mp H
            obtain ⟨t142, A270, H⟩ := H
            replace H : (some t142) = some r := H
            have A27 := Aside0.mk A270
            clear A270
            obtain rfl := Option.some.inj H
            obtain ⟨Ao28, co28, eo28⟩ := Kd.R_slice HO_5.out
            subst eo28
            go_wp2_with (first | (go_at_call 6; (with_reducible refine (fields_Words.calls k1 x6_1 (Int.tmod (wrap64 ((Int.tmod a1 9) + 9)) 9) t139 _ A26.out).mono ?_); rintro e w29 ⟨v140, rfl, ho0, hb⟩; have n0_ := Aside0.mk (Kd.R_elder' (by (with_reducible repeat (first | apply Kd.R_alloc | apply Kd.R_drewN | apply Kd.R_drew)); exact HO_5.out) (by first | exact Kd.R_base ho0 | exact Kd.S_base ho0 | exact Kd.R_base ho0) hb); have n1_ := Aside0.mk (Kd.R_lower (Kd.R_new' ho0 (Kd.R_lt (by (with_reducible repeat (first | apply Kd.R_alloc | apply Kd.R_drewN | apply Kd.R_drew)); exact HO_5.out))) (below_size (by repeat (first | (with_reducible first | exact HB.out | apply below_alloc | apply pw_below_drewN | apply below_drew1) | exact HB.out)))); have n2_ := Aside0.mk (below_step (by repeat (first | (with_reducible first | exact HB.out | apply below_alloc | apply pw_below_drewN | apply below_drew1) | exact HB.out)) hb); clear HO_5; clear HB; have HO_5 := n0_; have HO141 := n1_; have HB := n2_; clear n0_ n1_ n2_; (try clear hb); (try clear hb2); (try clear hk); (try clear hi); (try clear ho0); obtain ⟨Ao30, co30, eo30⟩ := Kd.R_slice HO141.out; subst eo30) | (go_at_call 7; (with_reducible refine (cowrieplain_SameTexts.calls k1 _ _ t139 _ _ t136 t142 _ ?side1 ?side2 ?side3 ?side4 A27.out).mono ?_); (case side1 => repeat (first | exact (Kd.R_reads' HO141.out).2.2 | (with_reducible refine Kd.C_alloc ?_ _) | (with_reducible refine Kd.C_drewN ?_ _) | (with_reducible refine Kd.C_drew ?_))); (case side2 => exact (Kd.R_reads' HO141.out).2.1); (case side3 => repeat (first | exact (Kd.R_reads' HO_5.out).2.2 | (with_reducible refine Kd.C_alloc ?_ _) | (with_reducible refine Kd.C_drewN ?_ _) | (with_reducible refine Kd.C_drew ?_))); (case side4 => exact (Kd.R_reads' HO_5.out).2.1); rintro e w' ⟨rfl, ⟨nd, rfl⟩⟩))
            go_ret
            exact ⟨by first | rfl | (simp [errW_none, errW_some] <;> rfl) | (simp [*, errW_none, errW_some] <;> rfl), by repeat (first | (with_reducible first | exact HB.out | apply below_alloc | apply pw_below_drewN | apply below_drew1) | exact HB.out)⟩
          · rw [if_neg c25] at H
            have c25b0 : decide ((t136.length : Int) ≤ (Int.tmod (wrap64 ((Int.tmod a1 9) + 9)) 9)) = false := decide_eq_false c25
            clear c25
            obtain rfl := Option.some.inj H
            obtain ⟨Ao31, co31, eo31⟩ := Kd.R_slice HO_5.out
            subst eo31
            go_wp2
            go_ret
            exact ⟨by first | rfl | (simp [errW_none, errW_some] <;> rfl) | (simp [*, errW_none, errW_some] <;> rfl), by repeat (first | (with_reducible first | exact HB.out | apply below_alloc | apply pw_below_drewN | apply below_drew1) | exact HB.out)⟩
  · replace c4 := Bool.eq_false_iff.mpr c4
    subst c4
    have H1 : (some false) = some r := by rw [if_neg (show ¬ (false = true) by decide)] at H; exact H
    clear H
    have H := H1
    clear H1
    obtain rfl := Option.some.inj H
    go_enter Tryd.func3, Tryd.ntmps3
    go_wp2_with (first | ((with_reducible refine gate_callee (f := 5) rfl ?_); refine goesL_ (some 9) rfl rfl Tryd.func5 (by kernel_rfl) rfl #[] rfl (by (try simp only [List.map_toArray, List.map_cons, List.map_nil]); first | done | rfl | (simp only [List.length_drop, List.length_take]; rfl)) ?_; (with_reducible refine (cowrielaw08_alive.calls  false _ A3.out).mono ?_); rintro e w32 ⟨rfl, hb⟩; refine ⟨_, rfl, ?_⟩; have n0_ := Aside0.mk (below_step (by repeat (first | (with_reducible first | exact HB.out | apply below_alloc | apply pw_below_drewN | apply below_drew1) | exact HB.out)) hb); clear HB; have HB := n0_; clear n0_; (try clear hb); (try clear hb2); (try clear hk); (try clear hi)))
    go_ret
    exact ⟨by first | rfl | (simp [errW_none, errW_some] <;> rfl) | (simp [*, errW_none, errW_some] <;> rfl), by repeat (first | (with_reducible first | exact HB.out | apply below_alloc | apply pw_below_drewN | apply below_drew1) | exact HB.out)⟩

/-- THE ONE PURE STATEMENT of cowrielaw08_FieldsWords: yours. -/
def cowrielaw08_FieldsWords.Pure : Prop := ∀ (a0 : ByteArray) (a1 : Int), a0.size ≤ 140737488351232 → (Lit.int .i64 a1).wf = true → ∃ k, cowrielaw08_FieldsWords.f k a0 a1 = some true
theorem cowrielaw08_FieldsWords.walk (P : cowrielaw08_FieldsWords.Pure) (a0 : ByteArray) (a1 : Int) (w : World) (w0 : a0.size ≤ 140737488351232) (w1 : (Lit.int .i64 a1).wf = true) :
    Calls Tryd.prog 3 #[.string a0, .int .i64 a1] w fun e w' => e = .returned (.bool true) ∧ Below w.heap.size w w' := by
  obtain ⟨k, h⟩ := P a0 a1 w0 w1
  refine (cowrielaw08_FieldsWords.calls k a0 a1 true w h).mono ?_
  rintro e w' ⟨rfl, hd⟩
  exact ⟨rfl, hd⟩

end Go.Proofs.YtfmfncknpifjcaaDoor.P

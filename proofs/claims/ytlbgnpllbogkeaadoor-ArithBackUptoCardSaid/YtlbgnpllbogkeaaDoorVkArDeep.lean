/- Proved: arith.deep's and Deep's calls. -/
import Derived.Test.YtlbgnpllbogkeaaDoorVkArW1
set_option linter.unusedVariables false
set_option linter.unusedSimpArgs false
namespace Go.Proofs.YtlbgnpllbogkeaaDoor.Ext
open Go.RowKit Go.Proofs.YtlbgnpllbogkeaaDoorW.PrintWords
def foldD (l : Nat) (kids : List E) (n : Nat) : Nat := kids.foldl (fun n k => max n (1 + deepF l k)) n
theorem deepF_succ (l : Nat) (x : E) : deepF (l + 1) x = foldD l x.kids 0 := by
  cases x with
  | mk o m n kids => rw [deepF]; rfl
theorem foldD_le (l B : Nat) : ∀ (kids : List E) (n : Nat), n ≤ B → (∀ k ∈ kids, 1 + deepF l k ≤ B) → foldD l kids n ≤ B
  | [], n, h, _ => h
  | k :: ks, n, h, hk => foldD_le l B ks _ (by have := hk k List.mem_cons_self; exact Nat.max_le.2 ⟨h, this⟩) (fun y hy => hk y (List.mem_cons_of_mem _ hy))
theorem deepF_le : ∀ (l : Nat) (x : E), deepF l x ≤ l
  | 0, _ => by rw [deepF]; exact Nat.le_refl _
  | l + 1, x => by
    rw [deepF_succ]
    exact foldD_le l (l + 1) _ 0 (Nat.zero_le _) (fun k _ => by have := deepF_le l k; omega)
theorem foldD_take (l : Nat) (kids : List E) (j : Nat) (hj : j < kids.length) : foldD l (kids.take (j + 1)) 0 = max (foldD l (kids.take j) 0) (1 + deepF l kids[j]) := by
  unfold foldD
  rw [List.take_succ_eq_append_getElem hj, List.foldl_append]
  rfl
theorem max_val (f0 dk : Nat) : Value.int .i64 (if (f0 : Int) < 1 + (dk : Int) then 1 + (dk : Int) else (f0 : Int)) = Value.int .i64 ((max f0 (1 + dk) : Nat) : Int) := by
  congr 1
  split <;> omega
abbrev sumV (x : E) (A : Option Addr) (c : Nat) : Value := .agg #[.string x.op, .string x.name, .int .i64 x.num, .slice A x.kids.length c]
set_option maxHeartbeats 4000000 in
theorem deep_calls : ∀ (l : Nat), l ≤ 1000 → ∀ (x : E) (A : Option Addr) (c : Nat) (w : World) (ok : Nat → Prop), SumR w ok x [.string x.op, .string x.name, .int .i64 x.num, .slice A x.kids.length c] →
    Calls Tryd.prog 34 #[.agg #[.string x.op, .string x.name, .int .i64 x.num, .slice A x.kids.length c], .int .i64 l] w fun e w' => e = .returned (.int .i64 (deepF l x)) ∧ Below w.heap.size w w'
  | 0, _, x, A, c, w, ok, h => by
    rw [deepF]
    have hmx : x.kids.length ≤ 9223372036854775807 := by obtain ⟨_, _, _, _, hm⟩ := h.inv; exact hm
    have hb0 := (Below.refl _ w).alloc (Nat.le_refl _) (.cells #[.string x.op, .string x.name, .int .i64 x.num, .slice A x.kids.length c] 25)
    have HS := Lib.hid (h.bel hb0)
    have HB0 := Lib.hid hb0
    have HMX := Lib.hid hmx
    clear h hmx hb0
    go_enter Tryd.func34, Tryd.ntmps34
    go_wp2_with fail
    obtain ⟨w0, hw0⟩ : ∃ w0, w0 = w.alloc (.cells #[.string x.op, .string x.name, .int .i64 x.num, .slice A x.kids.length c] 25) := ⟨_, rfl⟩
    rw [← hw0] at HS HB0 ⊢
    clear hw0
    go_loopw [5, 11] (fun n i wr => ∃ (j : Nat), n = .int .i64 0 ∧ i = .int .i64 j ∧ j ≤ x.kids.length ∧ Below w0.heap.size w0 wr) (fun _ i _ => x.kids.length - (intOf i).toNat)
    case atStart => exact ⟨0, rfl, rfl, Nat.zero_le _, Below.refl _ _⟩
    case round =>
      obtain ⟨j, rfl, rfl, hj, hbr⟩ := hrel
      have HBR := Lib.hid hbr
      have hmx := HMX.out
      clear hbr
      by_cases hlt : j < x.kids.length
      · obtain ⟨ad, A1, c1, rfl, hS1, x0, x1, x2, x3⟩ := (HS.out.bel HBR.out).kid (List.getElem?_eq_getElem hlt)
        generalize x.kids[j] = kj at *
        have HB2 := Lib.hid (below_step HBR.out ((Below.refl _ wr).alloc (Nat.le_refl _) (.cells #[.string kj.op, .string kj.name, .int .i64 kj.num, .slice A1 kj.kids.length c1] 25)))
        clear hS1
        go_wp2_with fail
        go_roundw
        case rel => exact ⟨j + 1, rfl, by go_num, by omega, HB2.out⟩
        case measure => simp [intOf]; omega
      · go_wp2_with fail
        go_ret
        exact ⟨rfl, below_step HB0.out HBR.out⟩
  | l + 1, hl, x, A, c, w, ok, h => by
    rw [deepF_succ]
    have hmx : x.kids.length ≤ 9223372036854775807 := by obtain ⟨_, _, _, _, hm⟩ := h.inv; exact hm
    have hb0 := (Below.refl _ w).alloc (Nat.le_refl _) (.cells #[.string x.op, .string x.name, .int .i64 x.num, .slice A x.kids.length c] 25)
    have HS := Lib.hid (h.bel hb0)
    have HB0 := Lib.hid hb0
    have HMX := Lib.hid hmx
    clear h hmx hb0
    have HL := Lib.hid hl
    have hlp : (0 : Int) < ((l + 1 : Nat) : Int) := by omega
    have hw1 : wrap64 (((l + 1 : Nat) : Int) - 1) = (l : Int) := by unfold wrap64; omega
    obtain ⟨l1, hl1⟩ : ∃ l1, l + 1 = l1 := ⟨_, rfl⟩
    rw [hl1] at hlp hw1 ⊢
    have hd1 : decide ((0 : Int) < (l1 : Int)) = true := decide_eq_true hlp
    have hlq : 0 < l1 := by omega
    have hlq2 : decide (0 < l1) = true := decide_eq_true hlq
    have HIH := Lib.hid (fun k A1 c1 W ok hk => deep_calls l (by omega) k A1 c1 W ok hk)
    have HFB := Lib.hid (fun (j : Nat) => foldD_le l 1000 (x.kids.take j) 0 (Nat.zero_le _) (fun k _ => by have := deepF_le l k; omega))
    clear hl hl1 hlp
    go_enter Tryd.func34, Tryd.ntmps34
    go_wp2_with fail
    obtain ⟨w0, hw0⟩ : ∃ w0, w0 = w.alloc (.cells #[.string x.op, .string x.name, .int .i64 x.num, .slice A x.kids.length c] 25) := ⟨_, rfl⟩
    rw [← hw0] at HS HB0 ⊢
    clear hw0
    go_loopw [5, 11] (fun n i wr => ∃ (j : Nat), n = .int .i64 (foldD l (x.kids.take j) 0 : Nat) ∧ i = .int .i64 j ∧ j ≤ x.kids.length ∧ Below w0.heap.size w0 wr) (fun _ i _ => x.kids.length - (intOf i).toNat)
    case atStart => exact ⟨0, rfl, rfl, Nat.zero_le _, Below.refl _ _⟩
    case round =>
      obtain ⟨j, rfl, rfl, hj, hbr⟩ := hrel
      have HBR := Lib.hid hbr
      have hmx := HMX.out
      clear hbr
      by_cases hlt : j < x.kids.length
      · obtain ⟨ad, A1, c1, rfl, hS1, x0, x1, x2, x3⟩ := (HS.out.bel HBR.out).kid (List.getElem?_eq_getElem hlt)
        have hft := foldD_take l x.kids j hlt
        have hfb := HFB.out j
        have hdb := deepF_le l x.kids[j]
        generalize x.kids[j] = kj at *
        generalize foldD l (x.kids.take j) 0 = f0 at *
        have hb1 := (Below.refl _ wr).alloc (Nat.le_refl _) (.cells #[.string kj.op, .string kj.name, .int .i64 kj.num, .slice A1 kj.kids.length c1] 25)
        have HC := Lib.hid (HIH.out kj A1 c1 _ ok (hS1.bel hb1))
        have HB2 := Lib.hid (below_step HBR.out hb1)
        generalize deepF l kj = dk at *
        have hl9 := HL.out
        have HFT := Lib.hid hft
        clear hS1 hb1 hft
        go_wp2_with fail
        refine HC.out.mono ?_
        rintro e w2 ⟨rfl, hb2⟩
        have HB3 := Lib.hid (below_step HB2.out hb2)
        clear hb2
        go_wp2_with fail
        go_roundw
        case rel => exact ⟨j + 1, by rw [HFT.out]; exact max_val f0 dk, by go_num, by omega, HB3.out⟩
        case measure => simp [intOf]; omega
      · have hje : j = x.kids.length := by omega
        subst hje
        rw [List.take_length]
        go_wp2_with fail
        go_ret
        exact ⟨rfl, below_step HB0.out HBR.out⟩
set_option maxHeartbeats 1000000 in
theorem Deep_calls (x : E) (A : Option Addr) (c : Nat) (w : World) (ok : Nat → Prop) (h : SumR w ok x [.string x.op, .string x.name, .int .i64 x.num, .slice A x.kids.length c]) :
    Calls Tryd.prog 22 #[.agg #[.string x.op, .string x.name, .int .i64 x.num, .slice A x.kids.length c]] w fun e w' => e = .returned (.int .i64 (deepF 1000 x)) ∧ Below w.heap.size w w' := by
  have hb0 := (Below.refl _ w).alloc (Nat.le_refl _) (.cells #[.string x.op, .string x.name, .int .i64 x.num, .slice A x.kids.length c] 25)
  have HC := Lib.hid (show Calls Tryd.prog 34 #[.agg #[.string x.op, .string x.name, .int .i64 x.num, .slice A x.kids.length c], .int .i64 1000] _ _ from deep_calls 1000 (Nat.le_refl _) x A c _ ok (h.bel hb0))
  have HB0 := Lib.hid hb0
  generalize deepF 1000 x = d1 at *
  clear h hb0
  go_enter Tryd.func22, Tryd.ntmps22
  go_wp2_with fail
  refine HC.out.mono ?_
  rintro e w2 ⟨rfl, hb2⟩
  have HB3 := Lib.hid (below_step HB0.out hb2)
  clear hb2
  go_wp2_with fail
  go_ret
  exact ⟨rfl, HB3.out⟩
end Go.Proofs.YtlbgnpllbogkeaaDoor.Ext

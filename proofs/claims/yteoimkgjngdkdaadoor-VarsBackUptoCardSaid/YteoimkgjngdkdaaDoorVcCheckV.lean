/- Proved: vars.Check's call tells 0 at a store that may be, in the print's form; elsewhere nothing is said. -/
import Derived.Test.YteoimkgjngdkdaaDoorVcVariable
import Derived.Maps.Own
import Derived.Maps.OwnSet
set_option linter.unusedVariables false
set_option linter.unusedSimpArgs false
namespace Go.Proofs.YteoimkgjngdkdaaDoor.Ext
open Go.RowKit Go.Shelf Go.Proofs.YteoimkgjngdkdaaDoorW.PrintWords Go.Proofs.YteoimkgjngdkdaaDoor.P
theorem keyedS : Go.Maps.Keyed Tryd.prog 9 := Go.Maps.string_keyed Tryd.underlying9
theorem zeroB (w : World) : (zeroValue 4).run Tryd.prog w = .ok (.bool false) w := by kernel_rfl
theorem plainBool_inv {P : Program} {e : TypeId} (he : P.underlying e = some .bool) {v : Value} {z : DataW Unit × List MemPlace} (h : plainElem P e v = some z) : ∃ b, v = .bool b ∧ z = (.lit (.bool b), []) := by
  unfold plainElem at h
  rw [he] at h
  cases v <;> simp at h
  rename_i b
  exact ⟨b, rfl, h.symm⟩
def nameL (p : S53) : Lit := .string p.f0.data.toList
def AllIn (D : DataW Unit) (l : List S53) : Prop := ∀ p ∈ l, D.atKey (nameL p) (.lit (.bool false)) = .lit (.bool true)
theorem nameL_key (p : S53) : WideAt.IsKeyLit (nameL p) := by
  unfold nameL
  exact True.intro
theorem allIn_put {D : DataW Unit} (hm : Go.Maps.IsMap D) {l : List S53} (h : AllIn D l) (p : S53) : AllIn (D.put (nameL p) (.lit (.bool true))) (l ++ [p]) := by
  intro q hq
  by_cases he : nameL q = nameL p
  · rw [he]; exact Go.Maps.atKey_put_same hm (nameL_key p) _ _
  · rw [Go.Maps.atKey_put_other he]
    rcases List.mem_append.1 hq with h1 | h1
    · exact h q h1
    · rw [List.mem_singleton.1 h1] at he; exact absurd rfl he
theorem allIn_del {D : DataW Unit} {l : List S53} {p : S53} (h : AllIn D (p :: l)) (hne : ∀ q ∈ l, nameL q ≠ nameL p) : AllIn (D.del (nameL p)) l := by
  intro q hq
  rw [Go.Maps.atKey_del_other (hne q hq)]
  exact h q (List.mem_cons_of_mem _ hq)
theorem look_true {w : World} {b n : Nat} {D : DataW Unit} {p : S53} (h : w.ownsMap Tryd.prog 9 (plainElem Tryd.prog 4) b n D) (hk : p.f0.size ≤ maxLen) (ha : D.atKey (nameL p) (.lit (.bool false)) = .lit (.bool true)) :
    (Instr.lookup 65 (.map (some b)) (.string p.f0) false).run Tryd.prog w = .ok (.bool true) w := by
  obtain ⟨v, ps, hrun, hv⟩ := h.lookup keyedS Tryd.underlying65 (zeroB w) (plainElem_bool Tryd.underlying4 false) (Go.WideMaps.keyOf_string_mk Tryd.underlying9 hk)
  obtain ⟨c, rfl, hc⟩ := plainBool_inv Tryd.underlying4 hv
  rw [show (Lit.string p.f0.data.toList) = nameL p from rfl, ha] at hc
  simp only [Prod.mk.injEq, DataW.lit.injEq, Lit.bool.injEq] at hc
  rw [hrun, ← hc.1]
theorem ownsMap_below {w w' : World} {b n k : Nat} {D : DataW Unit} (h : w.ownsMap Tryd.prog 9 (plainElem Tryd.prog 4) b n D) (hb : Below k w w') (hk : b < k) : w'.ownsMap Tryd.prog 9 (plainElem Tryd.prog 4) b n D := by
  obtain ⟨es, clock, h1, h2⟩ := h
  exact ⟨es, clock, (hb.block b hk).trans h1, h2⟩
/-- May a store be? -/
def okS (l0 : List S53) (l1 : List ByteArray) (n : Int) : Bool :=
  l0.all okV && decide (l0.length ≤ 1024) && decide (l1.length ≤ 1024) && l1.all okT && decide (0 ≤ n) && decide (n ≤ 255) && decide (l0.map fun p => p.f0.data.toList).Nodup
theorem name_small {p : S53} (h : okV p = true) : p.f0.size ≤ 1000000000 := by
  unfold okV at h
  simp only [Bool.and_eq_true, beq_iff_eq] at h
  have h1 := h.1.1.1.1.1
  unfold octets_Name.f at h1
  split at h1
  · assumption
  · cases h1
def vars_Check.f (l0 : List S53) (l1 : List ByteArray) (n : Int) : Option Int := if okS l0 l1 n = true then some 0 else none
set_option maxHeartbeats 8000000 in
set_option maxRecDepth 100000 in
theorem check_calls (A0 : Option Addr) (c0 : Nat) (l0 : List S53) (A1 : Option Addr) (c1 : Nat) (l1 : List ByteArray) (n : Int) (w : World) (hr0 : Kd.C k53 w A0 l0.length l0) (hc0 : l0.length ≤ c0) (hr1 : Kd.C Kd.string w A1 l1.length l1) (hc1 : l1.length ≤ c1) (h : okS l0 l1 n = true) :
    Calls Tryd.prog 17 #[.agg #[.slice A0 l0.length c0, .slice A1 l1.length c1, .int .i64 n]] w fun e w' => e = .returned (.int .i64 0) ∧ Below w.heap.size w w' := by
  have hmm := @run_makeMap Tryd.prog
  unfold okS at h
  simp only [Bool.and_eq_true, decide_eq_true_eq, List.all_eq_true] at h
  obtain ⟨⟨⟨⟨⟨⟨hv, hl0⟩, hl1⟩, ht⟩, hn0⟩, hn1⟩, hnd⟩ := h
  have HV := Lib.hid hv
  have HT := Lib.hid ht
  have HND := Lib.hid hnd
  have HR0 := Lib.hid hr0
  have HR1 := Lib.hid hr1
  clear hv ht hnd hr0 hr1
  go_enter Tryd.func17, Tryd.ntmps17
  go_wp2_with fail
  have hsz0 : (w.alloc (.cells #[.slice A0 l0.length c0, .slice A1 l1.length c1, .int .i64 n] 27)).heap.size = w.heap.size + 1 := by simp
  have HSZ0 := Lib.hid hsz0
  have HB0 := Lib.hid ((Below.refl _ w).alloc (Nat.le_refl _) (.cells #[.slice A0 l0.length c0, .slice A1 l1.length c1, .int .i64 n] 27))
  have HK0 := Lib.hid (heap_alloc_new w (.cells #[.slice A0 l0.length c0, .slice A1 l1.length c1, .int .i64 n] 27))
  clear hsz0
  go_loopw [12] (fun i wr => ∃ (k : Nat) (D : DataW Unit), k ≤ l0.length ∧ i = .int .i64 k ∧ wr.ownsMap Tryd.prog 9 (plainElem Tryd.prog 4) (w.heap.size + 1) k D ∧ AllIn D (l0.take k) ∧ Below w.heap.size w wr ∧
      wr.heap[w.heap.size]? = some (.cells #[.slice A0 l0.length c0, .slice A1 l1.length c1, .int .i64 n] 27 (0, 0))) (fun i _ => l0.length - (intOf i).toNat)
  case atStart =>
    refine ⟨0, .map [], Nat.zero_le _, rfl, ?_, ?_, ?_, ?_⟩
    · have := World.ownsMap_made (H := Unit) (w.alloc (.cells #[.slice A0 l0.length c0, .slice A1 l1.length c1, .int .i64 n] 27)) Tryd.prog 9 (plainElem Tryd.prog 4)
      rw [HSZ0.out] at this
      exact this
    · intro q hq
      rw [List.take_zero] at hq
      cases hq
    · exact HB0.out.alloc (by rw [HSZ0.out]; omega) _
    · exact blk_alloc HK0.out _
  case round =>
    obtain ⟨k, D, hk, rfl, hown, hall, hbw, hblk⟩ := hrel
    have HBW := Lib.hid hbw
    have HOWN := Lib.hid hown
    have HALL := Lib.hid hall
    have HBLK := Lib.hid hblk
    by_cases hlt : k < l0.length
    · have hp := List.getElem?_eq_getElem hlt
      obtain ⟨ad, A3, c3, rfl, x0, x1, x2, x3, l3, g3⟩ := at_T53 (Kd.C_below HR0.out hbw) (k : Nat) (by omega) (by omega)
      have hrd : rd_T53 l0 (k : Nat) = l0[k] := by
        unfold rd_T53
        rw [Int.toNat_natCast, List.getD_eq_getElem?_getD, hp]
        rfl
      rw [hrd] at x0 x1 x2 x3
      simp only [Int.toNat_natCast] at x0 x1 x2 x3
      have hok := HV.out _ (List.getElem_mem hlt)
      have hstep := allIn_put (hown.isMap) hall l0[k]
      rw [List.take_append_getElem hlt] at hstep
      have HSTEP := Lib.hid hstep
      generalize l0[k] = p at *
      have hkey := Go.WideMaps.keyOf_string_mk (P := Tryd.prog) (k := 9) Tryd.underlying9 (s := p.f0) (by have := name_small hok; unfold maxLen; omega)
      have hown2 := fun o => hown.alloc (o := o)
      clear hbw hown hall hblk hok hstep l3 g3 hrd
      go_wp2_with (first
        | (at_mapUpdate; refine wpList_mapUpdate_own _ rfl _ _ _ 65 rfl 9 4 keyedS Tryd.underlying65 _ (w.heap.size + 1) k _ rfl (hown2 _) (by unfold maxLen; omega) _ _ _ rfl rfl hkey _ [] (plainElem_bool Tryd.underlying4 true) ?_)
        | fail)
      intro w1 hown1 hgrow1
      have hb1 : Below w.heap.size w w1 := (HBW.out.alloc HBW.out.size _).grown hgrow1 (HBW.out.alloc HBW.out.size _).size (fun j hj => by cases hj; omega)
      have hk1 := blk_grown (blk_alloc HBLK.out _) hgrow1 (by intro e; have := Option.some.inj e; omega)
      have HOWN1 := Lib.hid hown1
      have HB1 := Lib.hid hb1
      have HK1 := Lib.hid hk1
      clear hown1 hgrow1 hb1 hk1 hown2 x0 x1 x2 x3 hkey
      go_wp2_with fail
      go_roundw
      case rel => exact ⟨k + 1, _, by omega, by go_num, HOWN1.out, HSTEP.out, HB1.out, HK1.out⟩
      case measure => simp [intOf]; omega
    · have hke : k = l0.length := by omega
      subst hke
      rw [List.take_length] at hall
      have hs0 := (blk_cell hblk 0).trans rfl
      have hs1 := (blk_cell hblk 1).trans rfl
      have hs2 := (blk_cell hblk 2).trans rfl
      have HALL := Lib.hid hall
      clear hown hall hbw hblk HSZ0 HB0 HK0
      go_wp2_with fail
      go_loopw [23] (fun i wr => ∃ (k : Nat) (D : DataW Unit), k ≤ l0.length ∧ i = .int .i64 k ∧ wr.ownsMap Tryd.prog 9 (plainElem Tryd.prog 4) (w.heap.size + 1) l0.length D ∧ AllIn D (l0.drop k) ∧ Below w.heap.size w wr ∧
          wr.heap[w.heap.size]? = some (.cells #[.slice A0 l0.length c0, .slice A1 l1.length c1, .int .i64 n] 27 (0, 0))) (fun i _ => l0.length - (intOf i).toNat)
      case atStart => exact ⟨0, _, Nat.zero_le _, rfl, HOWN.out, HALL.out, HBW.out, HBLK.out⟩
      case round =>
        clear HOWN HALL HBW HBLK hs0 hs1 hs2
        obtain ⟨k, D2, hk, rfl, hown, hall, hbw, hblk⟩ := hrel
        have HBW := Lib.hid hbw
        have HBLK := Lib.hid hblk
        by_cases hlt : k < l0.length
        · have hp := List.getElem?_eq_getElem hlt
          obtain ⟨ad, A3, c3, rfl, x0, x1, x2, x3, l3, g3⟩ := at_T53 (Kd.C_below HR0.out hbw) (k : Nat) (by omega) (by omega)
          have hrd : rd_T53 l0 (k : Nat) = l0[k] := by
            unfold rd_T53
            rw [Int.toNat_natCast, List.getD_eq_getElem?_getD, hp]
            rfl
          rw [hrd] at x0 x1 x2 x3 l3 g3
          simp only [Int.toNat_natCast] at x0 x1 x2 x3
          have hok := HV.out _ (List.getElem_mem hlt)
          rw [List.drop_eq_getElem_cons hlt] at hall
          have hnd2 := HND.out
          rw [← List.take_append_drop k l0, List.drop_eq_getElem_cons hlt, List.map_append, List.map_cons] at hnd2
          have hnd3 := (List.nodup_cons.1 (List.nodup_append.1 hnd2).2.1).1
          have hstep := allIn_del hall (fun q hq he => hnd3 (by
            unfold nameL at he
            rw [Lit.string.injEq] at he
            rw [← he]
            exact List.mem_map_of_mem hq))
          have hat := hall _ List.mem_cons_self
          generalize l0[k] = p at *
          have HSTEP := Lib.hid hstep
          have HOWN := Lib.hid hown
          have HOK := Lib.hid hok
          have HG3 := Lib.hid g3
          have HAT := Lib.hid hat
          clear hbw hown hall hblk hok hstep g3 hrd hnd2 hnd3 hat hp
          have HBA := Lib.hid ((Below.refl _ wr).alloc (Nat.le_refl _) (.cells #[.string p.f0, .string p.f1, .bool p.f2, .slice A3 p.f3.length c3] 53))
          have HKA := Lib.hid (heap_alloc_new wr (.cells #[.string p.f0, .string p.f1, .bool p.f2, .slice A3 p.f3.length c3] 53))
          have HSA : Hid ((wr.alloc (.cells #[.string p.f0, .string p.f1, .bool p.f2, .slice A3 p.f3.length c3] 53)).heap.size = wr.heap.size + 1) := Lib.hid (by simp)
          go_wp2_with fail
          refine (variable_calls p A3 c3 _ (Kd.C_below HG3.out HBA.out) l3 HOK.out).mono ?_
          rintro e w2 ⟨rfl, hb2⟩
          have hw2 := HBA.out.trans (hb2.mono HBA.out.size)
          have hown2 := ownsMap_below HOWN.out hw2 HOWN.out.lt
          have hk2 := blk_below HBLK.out hw2
          have hv2 := blk_below HKA.out hb2
          have x20 := (blk_cell hv2 0).trans rfl
          have hrun := look_true hown2 (by have := name_small HOK.out; unfold maxLen; omega) HAT.out
          have hkey := Go.WideMaps.keyOf_string_mk (P := Tryd.prog) (k := 9) Tryd.underlying9 (s := p.f0) (by have := name_small HOK.out; unfold maxLen; omega)
          have hbw2 := HBW.out.trans (hw2.mono HBW.out.size)
          have HBW2 := Lib.hid hbw2
          have HK2 := Lib.hid hk2
          clear hb2 hw2 hk2 hv2 hbw2 x0 x1 x2 x3 HBA HKA HSA
          go_wp2_with (first
            | (at_delete; refine wpList_delete_own _ rfl _ _ 65 9 rfl 4 keyedS Tryd.underlying65 _ (w.heap.size + 1) l0.length _ rfl hown2 _ _ rfl hkey ?_)
            | fail)
          intro w3 hown3 hturn3
          have hgrow3 := hturn3.grown
          have hb3 : Below w.heap.size w w3 := HBW2.out.grown hgrow3 HBW2.out.size (fun j hj => by cases hj; omega)
          have hk3 := blk_grown HK2.out hgrow3 (by intro e; have := Option.some.inj e; omega)
          have HOWN3 := Lib.hid hown3
          have HB3 := Lib.hid hb3
          have HK3 := Lib.hid hk3
          clear hown3 hgrow3 hturn3 hb3 hk3 hown2 x20 hrun hkey
          go_wp2_with fail
          go_roundw
          case rel => exact ⟨k + 1, _, by omega, by go_num, HOWN3.out, HSTEP.out, HB3.out, HK3.out⟩
          case measure => simp [intOf]; omega
        · have hke : k = l0.length := by omega
          subst hke
          have hs0 := (blk_cell hblk 0).trans rfl
          have hs1 := (blk_cell hblk 1).trans rfl
          have hs2 := (blk_cell hblk 2).trans rfl
          clear hown hall hbw hblk
          go_wp2_with fail
          refine (texts_calls A1 c1 l1 _ (Kd.C_below HR1.out HBW.out) hc1 (by omega) HT.out).mono ?_
          rintro e w4 ⟨rfl, hb4⟩
          have hk4 := blk_below HBLK.out hb4
          have z0 := (blk_cell hk4 0).trans rfl
          have z1 := (blk_cell hk4 1).trans rfl
          have z2 := (blk_cell hk4 2).trans rfl
          have HB4 := Lib.hid (HBW.out.trans (hb4.mono HBW.out.size))
          clear hb4 hk4 hs0 hs1 hs2
          go_wp2_with fail
          go_ret
          exact ⟨rfl, HB4.out⟩
theorem vars_Check.calls (A0 : Option Addr) (c0 : Nat) (l0 : List S53) (A1 : Option Addr) (c1 : Nat) (l1 : List ByteArray) (n : Int) (r : Int) (w : World) (hr0 : Kd.C k53 w A0 l0.length l0) (hc0 : l0.length ≤ c0) (hr1 : Kd.C Kd.string w A1 l1.length l1) (hc1 : l1.length ≤ c1) (h : vars_Check.f l0 l1 n = some r) :
    Calls Tryd.prog 17 #[.agg #[.slice A0 l0.length c0, .slice A1 l1.length c1, .int .i64 n]] w fun e w' => e = .returned (.int .i64 r) ∧ Below w.heap.size w w' := by
  unfold vars_Check.f at h
  split at h
  case isFalse => cases h
  rename_i hs
  obtain rfl := Option.some.inj h
  exact check_calls A0 c0 l0 A1 c1 l1 n w hr0 hc0 hr1 hc1 hs
end Go.Proofs.YteoimkgjngdkdaaDoor.Ext

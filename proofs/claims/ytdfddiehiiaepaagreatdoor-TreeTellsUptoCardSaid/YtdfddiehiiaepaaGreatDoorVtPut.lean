/- Proved: tree.put, in the print's form: a node put into a tree, in order, if there is room for it. Conditions: a tree that fits, texts of at most 2 to the 40 octets, a path. -/
import Derived.Test.YtdfddiehiiaepaaGreatDoorVtInsert
import Derived.Test.YtdfddiehiiaepaaGreatDoorVtTreeGP
set_option linter.unusedVariables false
set_option linter.unusedSimpArgs false
namespace Go.Proofs.YtdfddiehiiaepaaGreatDoor.Ext
open Go.RowKit Go.Shelf Go.Proofs.YtdfddiehiiaepaaGreatDoorW.PrintWords Go.Proofs.YtdfddiehiiaepaaGreatDoor.P
theorem bsGo_le (t : List S73) (p : ByteArray) : ∀ k i j : Nat, i ≤ j → bsGo t p k i j ≤ j
  | 0, i, j, h => by simpa [bsGo] using h
  | k + 1, i, j, h => by
    unfold bsGo
    split
    · split
      · exact bsGo_le t p k _ j (by omega)
      · exact Nat.le_trans (bsGo_le t p k i _ (by omega)) (by omega)
    · exact h
theorem bs_le (t : List S73) (p : ByteArray) : bs t p ≤ t.length := bsGo_le t p _ 0 _ (Nat.zero_le _)
/-- A tree with a node. -/
def withB (t : List S73) (n : S73) : List S73 := if bsIs t n.f0 = true then t.set (bs t n.f0) n else t.take (bs t n.f0) ++ n :: t.drop (bs t n.f0)
def putB (t : List S73) (n : S73) : List S73 × Int :=
  if kindOf t (dirB n.f0) = 0 then ([], 71) else if kindOf t (dirB n.f0) = 1 then ([], 16) else if 256 < (withB t n).length ∨ 65536 < total (withB t n) then ([], 17) else (withB t n, 0)
def tree_put.f (t : List S73) (p : ByteArray) (d : Bool) (x : ByteArray) : Option (List S73 × Int) :=
  if fitsT t = true ∧ p.size ≤ 1099511627776 ∧ x.size ≤ 1099511627776 ∧ p.data.toList.head? = some 47 then some (putB t ⟨p, d, x⟩) else none
theorem total_append (a b : List S73) : total (a ++ b) = total a + total b := by unfold total; simp
theorem total_cons (n : S73) (b : List S73) : total (n :: b) = n.f2.size + total b := by unfold total; simp
theorem total_cut (t : List S73) (i : Nat) : total (t.take i) + total (t.drop i) = total t := by rw [← total_append, List.take_append_drop]
theorem total_drop1 (t : List S73) (i : Nat) : total (t.drop (i + 1)) ≤ total (t.drop i) := by
  rcases Nat.lt_or_ge i t.length with h | h
  · rw [List.drop_eq_getElem_cons h, total_cons]
    omega
  · rw [List.drop_of_length_le (by omega), List.drop_of_length_le h]
    omega
theorem with_total (t : List S73) (n : S73) : total (withB t n) ≤ total t + n.f2.size := by
  have h1 := total_cut t (bs t n.f0)
  have h2 := total_drop1 t (bs t n.f0)
  unfold withB
  split
  · rename_i h
    have hlt : bs t n.f0 < t.length := by
      unfold bsIs at h
      simp only [Bool.and_eq_true, decide_eq_true_eq] at h
      exact h.1
    rw [List.set_eq_take_append_cons_drop, if_pos hlt, total_append, total_cons]
    omega
  · rw [total_append, total_cons]
    omega
theorem with_len (t : List S73) (n : S73) : (withB t n).length ≤ t.length + 1 := by
  have h := bs_le t n.f0
  unfold withB
  split
  · simp
  · simp
    omega
set_option maxHeartbeats 16000000 in
set_option maxRecDepth 100000 in
theorem tree_put.calls (A : Option Addr) (c : Nat) (t : List S73) (p : ByteArray) (d : Bool) (x : ByteArray) (r1 : List S73) (r2 : Int) (w : World) (hr : Kd.C k73 w A t.length t) (hc : t.length ≤ c) (h : tree_put.f t p d x = some (r1, r2)) :
    Calls Tryz.prog 61 #[.slice A t.length c, .agg #[.string p, .bool d, .string x]] w fun e w' => ∃ v0_ : Value, e = .returned (.tuple #[v0_, .int .i64 r2]) ∧ Kd.R k73 73 w' w.heap.size (fun _ => True) v0_ r1 ∧ Below w.heap.size w w' := by
  unfold tree_put.f at h
  split at h
  case isFalse => cases h
  rename_i hcond
  obtain ⟨hfit, hp, hx, hhead⟩ := hcond
  have he := Option.some.inj h
  obtain ⟨hl, htt⟩ : t.length ≤ 1099511627776 ∧ total t ≤ 1099511627776 := by
    unfold fitsT at hfit
    simp only [Bool.and_eq_true, decide_eq_true_eq] at hfit
    exact hfit.1
  have hB0 : Below w.heap.size w (w.alloc (.cells #[.string p, .bool d, .string x] 73)) := (Below.refl _ w).alloc (Nat.le_refl _) _
  have HA := Lib.hid (fun w => tree_above.calls p (dirB p) (nameB p) w (above_some p hhead hp))
  have HK := Lib.hid (fun w hr => tree_kind.calls A c t (dirB p) (kindOf t (dirB p)) w hr hc (by unfold tree_kind.f; rw [if_pos hl]))
  have HC := Lib.hid (fun w hr => clone_calls A c t w hr hc hl)
  have HR := Lib.hid hr
  unfold putB at he
  dsimp only at he
  have hwt := with_total t ⟨p, d, x⟩
  have hwl := with_len t ⟨p, d, x⟩
  dsimp only at hwt
  have hble := bs_le t p
  have HB0 := Lib.hid hB0
  clear h hr hB0 hfit hhead
  rcases kind_cases t (dirB p) with hk | hk | hk
  · rw [hk] at he HK
    obtain ⟨rfl, rfl⟩ : r1 = [] ∧ r2 = 71 := by cases he; exact ⟨rfl, rfl⟩
    clear he hk
    go_enter Tryz.func61, Tryz.ntmps61
    go_wp2_with fail
    refine (HA.out _).mono ?_
    rintro e w1 ⟨rfl, ⟨n1, rfl⟩⟩
    go_wp2_with fail
    refine (HK.out _ (Kd.C_below HR.out (pw_below_drewN HB0.out n1))).mono ?_
    rintro e w2 ⟨rfl, hb2⟩
    have HB2 := Lib.hid (below_next7 (pw_below_drewN HB0.out n1) (by simp) hb2)
    clear hb2
    go_wp2_with fail
    go_ret2
    exact ⟨_, rfl, Kd.R_nil _ _ _ _ _, HB2.out⟩
  · rw [hk] at he HK
    obtain ⟨rfl, rfl⟩ : r1 = [] ∧ r2 = 16 := by cases he; exact ⟨rfl, rfl⟩
    clear he hk
    go_enter Tryz.func61, Tryz.ntmps61
    go_wp2_with fail
    refine (HA.out _).mono ?_
    rintro e w1 ⟨rfl, ⟨n1, rfl⟩⟩
    go_wp2_with fail
    refine (HK.out _ (Kd.C_below HR.out (pw_below_drewN HB0.out n1))).mono ?_
    rintro e w2 ⟨rfl, hb2⟩
    have HB2 := Lib.hid (below_next7 (pw_below_drewN HB0.out n1) (by simp) hb2)
    clear hb2
    go_wp2_with fail
    go_ret2
    exact ⟨_, rfl, Kd.R_nil _ _ _ _ _, HB2.out⟩
  · rw [hk] at he HK
    rw [if_neg (by decide), if_neg (by decide)] at he
    have HE := Lib.hid he
    clear he hk
    go_enter Tryz.func61, Tryz.ntmps61
    go_wp2_with fail
    refine (HA.out _).mono ?_
    rintro e w1 ⟨rfl, ⟨n1, rfl⟩⟩
    go_wp2_with fail
    refine (HK.out _ (Kd.C_below HR.out (pw_below_drewN HB0.out n1))).mono ?_
    rintro e w2 ⟨rfl, hb2⟩
    have HB2 := Lib.hid (below_next7 (pw_below_drewN HB0.out n1) (by simp) hb2)
    have hbk2 : w2.heap[w.heap.size]? = some (.cells #[.string p, .bool d, .string x] 73 (0, 0)) := (hb2.block _ (by simp)).trans (World.alloc_heap_new w _)
    have hlt2 : w.heap.size < w2.heap.size := (Array.getElem?_eq_some_iff.1 hbk2).1
    clear hb2
    go_wp2_with fail
    refine (HC.out _ (Kd.C_below HR.out HB2.out)).mono ?_
    rintro e w3 ⟨v, rfl, hown, hb3⟩
    have HB3 := Lib.hid (below_next7 HB2.out HB2.out.size hb3)
    have hbk3 : w3.heap[w.heap.size]? = some (.cells #[.string p, .bool d, .string x] 73 (0, 0)) := (hb3.block _ hlt2).trans hbk2
    have hcell3 : w3.cell? ⟨w.heap.size, 0, none⟩ = some (.string p) := by simp [World.cell?, hbk3]
    obtain ⟨A3, c3, rfl, hc3, hC3⟩ := hown.reads
    have HOW := Lib.hid hown
    have HS := Lib.hid (search_calls A3 c3 t p w3 hC3 hc3 hl)
    have HSZ := Lib.hid hb3.size
    clear hown hb3 hC3
    go_wp2_with fail
    refine HS.out.mono ?_
    rintro e w4 ⟨rfl, hb4⟩
    have HB4 := Lib.hid (below_next7 HB3.out HB3.out.size hb4)
    have hbk4 : w4.heap[w.heap.size]? = some (.cells #[.string p, .bool d, .string x] 73 (0, 0)) := (hb4.block _ (by have := HSZ.out; omega)).trans hbk3
    have hcell40 : w4.cell? ⟨w.heap.size, 0, none⟩ = some (.string p) := by simp [World.cell?, hbk4]
    have hcell41 : w4.cell? ⟨w.heap.size, 1, none⟩ = some (.bool d) := by simp [World.cell?, hbk4]
    have hcell42 : w4.cell? ⟨w.heap.size, 2, none⟩ = some (.string x) := by simp [World.cell?, hbk4]
    have HOW4 := Lib.hid (pw_own_below HOW.out hb4)
    have HSZ4 := Lib.hid hb4.size
    have HBS := Lib.hid HB2.out.size
    clear hb4 HOW
    cases hbi : bsIs t p
    · have how4 : OwnT (w4.alloc (.cells #[.string p, .bool d, .string x] 73)) w2.heap.size (.slice A3 t.length c3) t := OwnT.same HOW4.out (fun k _ hk => Below.heap_alloc w4 _ k hk)
      have HINS := Lib.hid (insert_calls (.slice A3 t.length c3) w2.heap.size t ⟨p, d, x⟩ (bs t p) w4.heap.size (w4.alloc (.cells #[.string p, .bool d, .string x] 73)) how4 hl hble (by have h1 := HSZ.out; have h2 := HSZ4.out; simp; omega)
        (World.alloc_heap_new w4 _)
        (by
          intro e
          rcases HOW4.out.2 with ⟨h2, _⟩ | ⟨g, cap, cur, h2, _, h3, _⟩
          · injection h2 with e1 e2 e3
            subst e1
            simp [Value.ownBlock] at e
          · injection h2 with e1 e2 e3
            subst e1
            have h4 : g = w4.heap.size := by simpa [Value.ownBlock] using e
            have := (Array.getElem?_eq_some_iff.1 h3).1
            omega))
      have HOB := Lib.hid (fun k (hk : (Value.slice A3 t.length c3).ownBlock = some k) => own_blk how4 hk)
      have hwb : withB t ⟨p, d, x⟩ = t.take (bs t p) ++ ⟨p, d, x⟩ :: t.drop (bs t p) := by unfold withB; rw [if_neg (by dsimp only; rw [hbi]; simp)]
      have HWB := Lib.hid hwb
      clear how4 hwb
      go_wp2_with fail
      refine HINS.out.mono ?_
      rintro e w5 ⟨v5, rfl, hown5, hg5⟩
      have hb5 : Below w.heap.size w w5 := by
        refine (HB4.out.alloc HB4.out.size _).grown hg5 (by have := HB4.out.size; simp; omega) (fun k e => ?_)
        have h1 := HOB.out k e
        have h2 := HB2.out.size
        omega
      have HB5 := Lib.hid hb5
      rw [← HWB.out] at hown5
      clear HINS HOB HWB
      generalize hL : withB t ⟨p, d, x⟩ = L at *
      obtain ⟨A5, c5, rfl, hc5, hC5⟩ := hown5.reads
      have HOW5 := Lib.hid hown5
      have HSIZE := Lib.hid (T.tree_size.calls (L.length + 1) A5 c5 L _ w5 hC5 hc5 (size_some L (by omega) (by omega)))
      clear hown5 hg5 hb5 hC5
      by_cases h256 : 256 < L.length
      · have he := HE.out
        rw [if_pos (.inl h256)] at he
        obtain ⟨rfl, rfl⟩ : r1 = [] ∧ r2 = 17 := by cases he; exact ⟨rfl, rfl⟩
        have hd : decide ((256 : Int) < (L.length : Int)) = true := decide_eq_true (by omega)
        clear he HE
        go_wp2_with fail
        go_ret2
        exact ⟨_, rfl, Kd.R_nil _ _ _ _ _, HB5.out⟩
      · have hd : decide ((256 : Int) < (L.length : Int)) = false := decide_eq_false (by omega)
        by_cases hsz : 65536 < total L
        · have he := HE.out
          rw [if_pos (.inr hsz)] at he
          obtain ⟨rfl, rfl⟩ : r1 = [] ∧ r2 = 17 := by cases he; exact ⟨rfl, rfl⟩
          have hd2 : decide ((65536 : Int) < (total L : Int)) = true := decide_eq_true (by omega)
          clear he HE
          go_wp2_with fail
          refine HSIZE.out.mono ?_
          rintro e w6 ⟨rfl, hb6⟩
          have HB6 := Lib.hid (below_next7 HB5.out HB5.out.size hb6)
          clear hb6
          go_wp2_with fail
          go_ret2
          exact ⟨_, rfl, Kd.R_nil _ _ _ _ _, HB6.out⟩
        · have he := HE.out
          rw [if_neg (by omega)] at he
          obtain ⟨rfl, rfl⟩ : r1 = L ∧ r2 = 0 := by cases he; exact ⟨rfl, rfl⟩
          have hd2 : decide ((65536 : Int) < (total r1 : Int)) = false := decide_eq_false (by omega)
          clear he HE
          go_wp2_with fail
          refine HSIZE.out.mono ?_
          rintro e w6 ⟨rfl, hb6⟩
          have HB6 := Lib.hid (below_next7 HB5.out HB5.out.size hb6)
          have HOW6 := Lib.hid (pw_own_below HOW5.out hb6)
          clear hb6
          go_wp2_with fail
          go_ret2
          exact ⟨_, rfl, Kd.R_lower (OwnT.R HOW6.out) HBS.out, HB6.out⟩
    · have hlt : bs t p < t.length := by
        have := hbi
        unfold bsIs at this
        simp only [Bool.and_eq_true, decide_eq_true_eq] at this
        exact this.1
      obtain ⟨g, rfl⟩ : ∃ g, A3 = some ⟨g, 0, none⟩ := by
        rcases HOW4.out.2 with ⟨h2, h3⟩ | ⟨g, cap, cur, h2, _⟩
        · omega
        · cases h2
          exact ⟨g, rfl⟩
      have HO4 : OwnT w4 w2.heap.size (.slice (some ⟨g, 0, none⟩) t.length c3) t := HOW4.out
      obtain ⟨hglt, hbg, hnc, hcm, cur, hcur, hcs, htk⟩ := HO4.at rfl
      obtain ⟨A4, c4, e2, _, hC4⟩ := HO4.reads
      have e4 : A4 = some ⟨g, 0, none⟩ := by injection e2 with h1; exact h1.symm
      subst e4
      clear e2
      obtain ⟨ad, e3, hy0, hy1, hy2⟩ := at_T73 hC4 (bs t p : Nat) (by omega) (by omega)
      cases e3
      simp only [Int.toNat_natCast, addr_add, Nat.zero_add] at hy0 hy1 hy2
      have hf0 := frozen_row hcur (bs t p * 3)
      have hf1 := frozen_row hcur (bs t p * 3 + 1)
      have hf2 := frozen_row hcur (bs t p * 3 + 2)
      have hi2 : (bs t p : Int) < (t.length : Int) := by omega
      have hi3 : (0 : Int) ≤ (bs t p : Int) := by omega
      have hwb : withB t ⟨p, d, x⟩ = t.set (bs t p) ⟨p, d, x⟩ := by unfold withB; rw [if_pos hbi]
      obtain ⟨W5, hW5⟩ : ∃ W5, W5 = ((w4.setCell ⟨g, bs t p * 3, none⟩ (.string p)).setCell ⟨g, bs t p * 3 + 1, none⟩ (.bool d)).setCell ⟨g, bs t p * 3 + 2, none⟩ (.string x) := ⟨_, rfl⟩
      have hown5 : OwnT W5 w2.heap.size (.slice (some ⟨g, 0, none⟩) t.length c3) (t.set (bs t p) ⟨p, d, x⟩) := by
        rw [hW5]
        exact HO4.put (x := ⟨p, d, x⟩) rfl hlt
      have hb5 : Below w.heap.size w W5 := by
        rw [hW5]
        exact setCells_below g (by have := HBS.out; omega) (cellsN ⟨p, d, x⟩) (bs t p * 3) w4 HB4.out
      have hlen : (t.set (bs t p) ⟨p, d, x⟩).length = t.length := List.length_set
      have HB5 := Lib.hid hb5
      rw [← hwb] at hown5 hlen
      clear hwb hC4 hb5 HO4
      generalize hL : withB t ⟨p, d, x⟩ = L at *
      obtain ⟨A5, c5, e5, hc5, hC5⟩ := hown5.reads
      injection e5 with e6 e7 e8
      subst e6
      subst e8
      have hsize := T.tree_size.calls (L.length + 1) (some ⟨g, 0, none⟩) c3 L _ W5 hC5 hc5 (size_some L (by omega) (by omega))
      rw [hlen] at hsize
      have HSIZE := Lib.hid hsize
      have HOW5 := Lib.hid hown5
      have HLEN := Lib.hid hlen
      rw [hlen] at HE
      have HW5 := Lib.hid hW5
      clear hown5 hC5 hsize hlen hL e7 hc5 hwl hwt hcs htk hcur HOW4 hW5
      by_cases h256 : 256 < t.length
      · have he := HE.out
        rw [if_pos (.inl h256)] at he
        obtain ⟨rfl, rfl⟩ : r1 = [] ∧ r2 = 17 := by cases he; exact ⟨rfl, rfl⟩
        have hd : decide ((256 : Int) < (t.length : Int)) = true := decide_eq_true (by omega)
        clear he HE
        go_wp2_with fail
        rw [← HW5.out]
        go_ret2
        exact ⟨_, rfl, Kd.R_nil _ _ _ _ _, HB5.out⟩
      · have hd : decide ((256 : Int) < (t.length : Int)) = false := decide_eq_false (by omega)
        by_cases hsz : 65536 < total L
        · have he := HE.out
          rw [if_pos (.inr hsz)] at he
          obtain ⟨rfl, rfl⟩ : r1 = [] ∧ r2 = 17 := by cases he; exact ⟨rfl, rfl⟩
          have hd2 : decide ((65536 : Int) < (total L : Int)) = true := decide_eq_true (by omega)
          clear he HE
          go_wp2_with fail
          rw [← HW5.out]
          refine HSIZE.out.mono ?_
          rintro e w6 ⟨rfl, hb6⟩
          have HB6 := Lib.hid (below_next7 HB5.out HB5.out.size hb6)
          clear hb6
          go_wp2_with fail
          go_ret2
          exact ⟨_, rfl, Kd.R_nil _ _ _ _ _, HB6.out⟩
        · have he := HE.out
          rw [if_neg (by omega)] at he
          obtain ⟨rfl, rfl⟩ : r1 = L ∧ r2 = 0 := by cases he; exact ⟨rfl, rfl⟩
          have hd2 : decide ((65536 : Int) < (total r1 : Int)) = false := decide_eq_false (by omega)
          clear he HE
          go_wp2_with fail
          rw [← HW5.out]
          refine HSIZE.out.mono ?_
          rintro e w6 ⟨rfl, hb6⟩
          have HB6 := Lib.hid (below_next7 HB5.out HB5.out.size hb6)
          have HOW6 := Lib.hid (pw_own_below HOW5.out hb6)
          clear hb6
          go_wp2_with fail
          go_ret2
          refine ⟨_, rfl, Kd.R_lower (OwnT.R ?_) HBS.out, HB6.out⟩
          exact HOW6.out
end Go.Proofs.YtdfddiehiiaepaaGreatDoor.Ext

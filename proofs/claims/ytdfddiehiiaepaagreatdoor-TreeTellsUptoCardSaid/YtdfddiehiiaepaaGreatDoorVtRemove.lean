/- Proved: tree.Remove in the print's form. Conditions: at most 2 to the 40 nodes, octets in all. -/
import Derived.Test.YtdfddiehiiaepaaGreatDoorVtDelete
import Derived.Test.YtdfddiehiiaepaaGreatDoorVtTreeGP
set_option linter.unusedVariables false
set_option linter.unusedSimpArgs false
namespace Go.Proofs.YtdfddiehiiaepaaGreatDoor.Ext
open Go.RowKit Go.Shelf Go.Proofs.YtdfddiehiiaepaaGreatDoorW.PrintWords Go.Proofs.YtdfddiehiiaepaaGreatDoor.P
/-- Is a node a path's, or beneath it? -/
def underB (p : ByteArray) (n : S73) : Bool := n.f0.toList == p.toList || Lib.hasPrefix n.f0.data.toList (p ++ ⟨#[47]⟩).data.toList
set_option maxHeartbeats 4000000 in
set_option maxRecDepth 100000 in
theorem remove1_calls (p : ByteArray) (n : S73) (B : Nat) (w : World) (hb : Boxed w B 9 (.string p)) (hp : p.size ≤ 1099511627778) :
    Calls Tryz.prog 67 (#[.agg #[.string n.f0, .bool n.f1, .string n.f2]] ++ #[.pointer (some ⟨B, 0, none⟩)]) w fun e w' => e = .returned (.bool (underB p n)) ∧ Below w.heap.size w w' := by
  have hcell := hb.cell
  have hblt := hb.lt
  have hs1 : p.size + 1 ≤ 9223372036854775807 := by omega
  have HP := Lib.hid (fun w => Tryz.strings_HasPrefix n.f0 (p ++ ⟨#[47]⟩) w)
  clear hp
  cases h1 : n.f0.toList == p.toList
  · have hu : underB p n = Lib.hasPrefix n.f0.data.toList (p ++ ⟨#[47]⟩).data.toList := by unfold underB; rw [h1]; rfl
    have HU := Lib.hid hu
    clear hu
    go_enter Tryz.func67, Tryz.ntmps67
    go_wp2_with fail
    refine (HP.out _).mono ?_
    rintro e w1 ⟨rfl, rfl⟩
    go_wp2_with fail
    go_ret
    exact ⟨by rw [HU.out]; rfl, (Below.refl _ w).alloc (Nat.le_refl _) _⟩
  · have hu : underB p n = true := by unfold underB; rw [h1]; rfl
    have HU := Lib.hid hu
    clear hu
    go_enter Tryz.func67, Tryz.ntmps67
    go_wp2_with fail
    go_ret
    exact ⟨by rw [HU.out]; rfl, (Below.refl _ w).alloc (Nat.le_refl _) _⟩
/-- Without a node. -/
def removeB (t : List S73) (p : ByteArray) (all : Bool) : List S73 × Int :=
  if (askB t p).2 = 0 then
    (if kindOf t (askB t p).1 = 0 then ([], 71) else if ((askB t p).1.toList == [47]) = true then ([], 15) else if kindOf t (askB t p).1 = 2 ∧ all = false then ([], 15) else (t.filter (fun n => !underB (askB t p).1 n), 0))
  else ([], (askB t p).2)
def tree_Remove.f (t : List S73) (p : ByteArray) (all : Bool) : Option (List S73 × Int) := if fitsT t = true ∧ p.size ≤ 1099511627776 then some (removeB t p all) else none
theorem askB_size {t : List S73} {p : ByteArray} (hp : p.size ≤ 1099511627776) : (askB t p).1.size ≤ 1099511627778 := by
  unfold askB
  split
  · split
    · exact Nat.zero_le _
    · show (pathB p).size ≤ _
      have := Path.path_len p.data.toList
      unfold pathB
      rw [mkB_size]
      rw [← Lib.size_eq] at this
      omega
  · exact Nat.zero_le _
set_option maxHeartbeats 8000000 in
set_option maxRecDepth 100000 in
theorem tree_Remove.calls (A : Option Addr) (c : Nat) (t : List S73) (p : ByteArray) (all : Bool) (r1 : List S73) (r2 : Int) (w : World) (hr : Kd.C k73 w A t.length t) (hc : t.length ≤ c) (h : tree_Remove.f t p all = some (r1, r2)) :
    Calls Tryz.prog 29 #[.slice A t.length c, .string p, .bool all] w fun e w' => ∃ v0_ : Value, e = .returned (.tuple #[v0_, .int .i64 r2]) ∧ Kd.R k73 73 w' w.heap.size (fun _ => True) v0_ r1 ∧ Below w.heap.size w w' := by
  unfold tree_Remove.f at h
  split at h
  case isFalse => cases h
  rename_i hf
  have he := Option.some.inj h
  have hl : t.length ≤ 1099511627776 := by
    have := hf.1
    unfold fitsT at this
    simp only [Bool.and_eq_true, decide_eq_true_eq] at this
    exact this.1.1
  have hqs := askB_size (t := t) hf.2
  unfold removeB at he
  have HA := Lib.hid (tree_ask.calls A c t p (askB t p).1 (askB t p).2 w hr hc (by unfold tree_ask.f; rw [if_pos hf]))
  have HR := Lib.hid hr
  clear h hr
  generalize askB t p = q at *
  obtain ⟨q1, q2⟩ := q
  dsimp only at he HA hqs
  by_cases h0 : q2 = 0
  case neg =>
    have hb : (q2 != 0) = true := bne_iff_ne.2 h0
    rw [if_neg h0] at he
    obtain ⟨rfl, rfl⟩ : r1 = [] ∧ r2 = q2 := by cases he; exact ⟨rfl, rfl⟩
    clear he h0 hf
    go_enter Tryz.func29, Tryz.ntmps29
    go_wp2_with fail
    refine HA.out.mono ?_
    rintro e w1 ⟨rfl, hb1⟩
    have HB1 := Lib.hid hb1
    clear hb1
    go_wp2_with fail
    go_ret2
    exact ⟨_, rfl, Kd.R_nil _ _ _ _ _, HB1.out.alloc HB1.out.size _⟩
  subst h0
  rw [if_pos rfl] at he
  have HK := Lib.hid (fun w hr => tree_kind.calls A c t q1 (kindOf t q1) w hr hc (by unfold tree_kind.f; rw [if_pos hl]))
  have HC := Lib.hid (fun w hr => clone_calls A c t w hr hc hl)
  have hkc := kind_cases t q1
  generalize kindOf t q1 = kk at *
  by_cases hk0 : kk = 0
  · subst hk0
    rw [if_pos rfl] at he
    obtain ⟨rfl, rfl⟩ : r1 = [] ∧ r2 = 71 := by cases he; exact ⟨rfl, rfl⟩
    clear he hf hkc
    go_enter Tryz.func29, Tryz.ntmps29
    go_wp2_with fail
    refine HA.out.mono ?_
    rintro e w1 ⟨rfl, hb1⟩
    have HB1 := Lib.hid (hb1.alloc hb1.size (.cells #[.string q1] 9))
    clear hb1
    go_wp2_with fail
    refine (HK.out _ (Kd.C_below HR.out HB1.out)).mono ?_
    rintro e w2 ⟨rfl, hb2⟩
    have HB2 := Lib.hid (below_next7 HB1.out HB1.out.size hb2)
    clear hb2
    go_wp2_with fail
    go_ret2
    exact ⟨_, rfl, Kd.R_nil _ _ _ _ _, HB2.out⟩
  have hkk0 : (kk == 0) = false := beq_eq_false_iff_ne.2 hk0
  rw [if_neg hk0] at he
  cases h47 : q1.toList == [47]
  · rw [if_neg (by simp [h47])] at he
    by_cases h2 : kk = 2 ∧ all = false
    · rw [if_pos h2] at he
      obtain ⟨rfl, rfl⟩ := h2
      obtain ⟨rfl, rfl⟩ : r1 = [] ∧ r2 = 15 := by cases he; exact ⟨rfl, rfl⟩
      clear he hf hkc hk0
      go_enter Tryz.func29, Tryz.ntmps29
      go_wp2_with fail
      refine HA.out.mono ?_
      rintro e w1 ⟨rfl, hb1⟩
      have HB1 := Lib.hid (hb1.alloc hb1.size (.cells #[.string q1] 9))
      have hbk1 : (w1.alloc (.cells #[.string q1] 9)).heap[w1.heap.size]? = some (.cells #[.string q1] 9 (0, 0)) := World.alloc_heap_new w1 _
      clear hb1
      go_wp2_with fail
      refine (HK.out _ (Kd.C_below HR.out HB1.out)).mono ?_
      rintro e w2 ⟨rfl, hb2⟩
      have HB2 := Lib.hid (below_next7 HB1.out HB1.out.size hb2)
      have hbk2 : Boxed w2 w1.heap.size 9 (.string q1) := (hb2.block _ (by simp)).trans hbk1
      have hcell2 := hbk2.cell
      clear hb2
      go_wp2_with fail
      go_ret2
      exact ⟨_, rfl, Kd.R_nil _ _ _ _ _, HB2.out⟩
    · rw [if_neg h2] at he
      obtain ⟨rfl, rfl⟩ : r1 = t.filter (fun n => !underB q1 n) ∧ r2 = 0 := by cases he; exact ⟨rfl, rfl⟩
      have hkind : (kk == 2) = false ∨ ((kk == 2) = true ∧ all = true) := by
        rcases hkc with h | h | h
        · exact absurd h hk0
        · left; rw [h]; rfl
        · right
          refine ⟨by rw [h]; rfl, ?_⟩
          cases all with
          | true => rfl
          | false => exact absurd ⟨h, rfl⟩ h2
      clear he hf hkc hk0 h2
      go_enter Tryz.func29, Tryz.ntmps29
      go_wp2_with fail
      refine HA.out.mono ?_
      rintro e w1 ⟨rfl, hb1⟩
      have HB1 := Lib.hid (hb1.alloc hb1.size (.cells #[.string q1] 9))
      have hbk1 : (w1.alloc (.cells #[.string q1] 9)).heap[w1.heap.size]? = some (.cells #[.string q1] 9 (0, 0)) := World.alloc_heap_new w1 _
      have hsz1 := hb1.size
      clear hb1
      go_wp2_with fail
      refine (HK.out _ (Kd.C_below HR.out HB1.out)).mono ?_
      rintro e w2 ⟨rfl, hb2⟩
      have HB2 := Lib.hid (below_next7 HB1.out HB1.out.size hb2)
      have hbk2 : Boxed w2 w1.heap.size 9 (.string q1) := (hb2.block _ (by simp)).trans hbk1
      have hcell2 := hbk2.cell
      have hlt2 := hbk2.lt
      clear hb2 hbk1
      have hrest : ∀ (K : Prop), K → K := fun _ h => h
      rcases hkind with hkk | ⟨hkk, rfl⟩
      · go_wp2_with fail
        refine (HC.out _ (Kd.C_below HR.out HB2.out)).mono ?_
        rintro e w3 ⟨v, rfl, hown, hb3⟩
        have HB3 := Lib.hid (below_next7 HB2.out HB2.out.size hb3)
        have hbk3 : Boxed w3 w1.heap.size 9 (.string q1) := (hb3.block _ hlt2).trans hbk2
        have HD := Lib.hid (delete_calls 67 #[.pointer (some ⟨w1.heap.size, 0, none⟩)] (enters_of Tryz.func67 (by kernel_rfl) rfl) (underB q1) w2.heap.size v t w3 hown hl hb3.size (fun n hn W hW => remove1_calls q1 n w1.heap.size W ((hW.block _ hlt2).trans hbk3) (by omega)))
        clear hb3 hown
        go_wp2_with fail
        refine HD.out.mono ?_
        rintro e w4 ⟨v4, rfl, hown4, hb4⟩
        have HB4 := Lib.hid (HB3.out.trans (hb4.mono HB2.out.size))
        have HO4 := Lib.hid hown4
        have HS2 := Lib.hid HB2.out.size
        clear hb4 hown4
        go_wp2_with fail
        go_ret2
        exact ⟨_, rfl, Kd.R_lower (OwnT.R HO4.out) HS2.out, HB4.out⟩
      · go_wp2_with fail
        refine (HC.out _ (Kd.C_below HR.out HB2.out)).mono ?_
        rintro e w3 ⟨v, rfl, hown, hb3⟩
        have HB3 := Lib.hid (below_next7 HB2.out HB2.out.size hb3)
        have hbk3 : Boxed w3 w1.heap.size 9 (.string q1) := (hb3.block _ hlt2).trans hbk2
        have HD := Lib.hid (delete_calls 67 #[.pointer (some ⟨w1.heap.size, 0, none⟩)] (enters_of Tryz.func67 (by kernel_rfl) rfl) (underB q1) w2.heap.size v t w3 hown hl hb3.size (fun n hn W hW => remove1_calls q1 n w1.heap.size W ((hW.block _ hlt2).trans hbk3) (by omega)))
        clear hb3 hown
        go_wp2_with fail
        refine HD.out.mono ?_
        rintro e w4 ⟨v4, rfl, hown4, hb4⟩
        have HB4 := Lib.hid (HB3.out.trans (hb4.mono HB2.out.size))
        have HO4 := Lib.hid hown4
        have HS2 := Lib.hid HB2.out.size
        clear hb4 hown4
        go_wp2_with fail
        go_ret2
        exact ⟨_, rfl, Kd.R_lower (OwnT.R HO4.out) HS2.out, HB4.out⟩
  · rw [if_pos (by simp [h47])] at he
    obtain ⟨rfl, rfl⟩ : r1 = [] ∧ r2 = 15 := by cases he; exact ⟨rfl, rfl⟩
    clear he hf hkc hk0
    go_enter Tryz.func29, Tryz.ntmps29
    go_wp2_with fail
    refine HA.out.mono ?_
    rintro e w1 ⟨rfl, hb1⟩
    have HB1 := Lib.hid (hb1.alloc hb1.size (.cells #[.string q1] 9))
    have hbk1 : (w1.alloc (.cells #[.string q1] 9)).heap[w1.heap.size]? = some (.cells #[.string q1] 9 (0, 0)) := World.alloc_heap_new w1 _
    clear hb1
    go_wp2_with fail
    refine (HK.out _ (Kd.C_below HR.out HB1.out)).mono ?_
    rintro e w2 ⟨rfl, hb2⟩
    have HB2 := Lib.hid (below_next7 HB1.out HB1.out.size hb2)
    have hbk2 : Boxed w2 w1.heap.size 9 (.string q1) := (hb2.block _ (by simp)).trans hbk1
    have hcell2 := hbk2.cell
    clear hb2
    go_wp2_with fail
    go_ret2
    exact ⟨_, rfl, Kd.R_nil _ _ _ _ _, HB2.out⟩
end Go.Proofs.YtdfddiehiiaepaaGreatDoor.Ext

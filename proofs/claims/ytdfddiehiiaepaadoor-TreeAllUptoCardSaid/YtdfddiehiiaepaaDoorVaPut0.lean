/- Proved: tree.put into an empty tree, in the print's form. Conditions: texts of at most 2 to the 40 octets; the node's directory is /. -/
import Derived.Test.YtdfddiehiiaepaaDoorVaClone
import Derived.Test.YtdfddiehiiaepaaDoorVaCheck
set_option linter.unusedVariables false
set_option linter.unusedSimpArgs false
namespace Go.Proofs.YtdfddiehiiaepaaDoor.Ext
open Go.RowKit Go.Shelf Go.Proofs.YtdfddiehiiaepaaDoorW.PrintWords Go.Proofs.YtdfddiehiiaepaaDoor.P
set_option maxHeartbeats 4000000 in
set_option maxRecDepth 100000 in
/-- slices.Insert at the end: behind all. -/
theorem insert_end (v : Value) (base : Nat) (t : List S65) (n : S65) (vb : Nat) (w : World) (hv : OwnT w base v t) (hl : t.length ≤ 1099511627776) (hb : base ≤ w.heap.size)
    (hn : ∀ j u, (cellsN n)[j]? = some u → w.cell? ((⟨vb, 0, none⟩ : Addr).add j) = some u) :
    Calls Tryd.prog 75 #[v, .int .i64 t.length, .slice (some ⟨vb, 0, none⟩) 1 1] w fun e w' => ∃ v', e = .returned v' ∧ OwnT w' base v' (t ++ [n]) ∧ w.grownBy w' v.ownBlock := by
  obtain ⟨i0, hi, hz0, hz1, hz2⟩ := info_parts infoN
  have u23 : ∀ w, Sem.run Tryd.prog (underlying 23) w = .ok (TypeDesc.slice 65) w := run_underlying Tryd.underlying23
  have hmx : (1099511627776 : Nat) + 2 ≤ maxLen := by decide
  obtain ⟨A, c, rfl, hc, _⟩ := hv.reads
  unfold OwnT at hv
  have hone : ∀ u ∈ cellsN n, u.oneCell' = true := by
    intro u hu
    simp [cellsN] at hu
    rcases hu with rfl | rfl | rfl <;> rfl
  have HV := Lib.hid hv
  have HN := Lib.hid hn
  clear hv hn
  go_enter Tryd.func75, Tryd.ntmps75
  go_wp2_with (at_builtin; refine wpList_append_own _ rfl _ _ 23 rfl base 65 i0 (.agg #[(.string ⟨#[]⟩), (.bool false), (.string ⟨#[]⟩)]) 3 40 Tryd.underlying23 hi hz0 hz1 hz2 rfl (by decide) _ _ _ rfl HV.out ⟨vb, 0, none⟩ 1 1 (cellsN n) rfl rfl HN.out hone (by omega) (by omega) hb ?_)
  all_goals
    intro v' w1 hown hgrow hnil
    have HO := Lib.hid hown
    have HG := Lib.hid hgrow
    clear hown hgrow hnil
    go_wp2
    go_ret
    refine ⟨_, rfl, ?_, by first | exact HG.out | (rw [‹c = t.length›]; exact HG.out)⟩
    unfold OwnT
    rw [List.length_append, cellsT_append]
    exact HO.out
def tree_put.f (t : List S65) (p : ByteArray) (d : Bool) (x : ByteArray) : Option (List S65 × Int) :=
  if t = [] ∧ p.size ≤ 1099511627776 ∧ x.size ≤ 1099511627776 ∧ p.data.toList.head? = some 47 ∧ (dirB p).toList = [47] then some (if x.size ≤ 65536 then ([⟨p, d, x⟩], 0) else ([], 17)) else none
set_option maxHeartbeats 8000000 in
set_option maxRecDepth 100000 in
theorem tree_put.calls (A : Option Addr) (c : Nat) (t : List S65) (p : ByteArray) (d : Bool) (x : ByteArray) (r1 : List S65) (r2 : Int) (w : World) (hr : Kd.C k65 w A t.length t) (hc : t.length ≤ c) (h : tree_put.f t p d x = some (r1, r2)) :
    Calls Tryd.prog 44 #[.slice A t.length c, .agg #[.string p, .bool d, .string x]] w fun e w' => ∃ v0_ : Value, e = .returned (.tuple #[v0_, .int .i64 r2]) ∧ Kd.R k65 65 w' w.heap.size (fun _ => True) v0_ r1 ∧ Below w.heap.size w w' := by
  unfold tree_put.f at h
  split at h
  case isFalse => cases h
  rename_i hcond
  obtain ⟨rfl, hp, hx, hhead, hdir⟩ := hcond
  have he := Option.some.inj h
  have hB0 : Below w.heap.size w (w.alloc (.cells #[.string p, .bool d, .string x] 65)) := (Below.refl _ w).alloc (Nat.le_refl _) _
  have HA := Lib.hid (fun w => tree_above.calls p (dirB p) (nameB p) w (above_some p hhead hp))
  have HK := Lib.hid (fun w hr => tree_kind.calls A c [] (dirB p) 2 w hr hc (by unfold tree_kind.f kindOf; rw [if_pos (by simp), if_pos (by rw [hdir]; rfl)]))
  have HC := Lib.hid (fun w hr => clone_calls A c [] w hr hc (by simp))
  have HR := Lib.hid hr
  have HE := Lib.hid he
  have HB0 := Lib.hid hB0
  clear h he hr hB0 hdir hhead
  go_enter Tryd.func44, Tryd.ntmps44
  go_wp2_with fail
  refine (HA.out _).mono ?_
  rintro e w1 ⟨rfl, ⟨n1, rfl⟩⟩
  go_wp2_with fail
  refine (HK.out _ (Kd.C_below HR.out (pw_below_drewN HB0.out n1))).mono ?_
  rintro e w2 ⟨rfl, hb2⟩
  have HB2 := Lib.hid (below_next7 (pw_below_drewN HB0.out n1) (by simp) hb2)
  have hbk2 : w2.heap[w.heap.size]? = some (.cells #[.string p, .bool d, .string x] 65 (0, 0)) := (hb2.block _ (by simp)).trans (World.alloc_heap_new w _)
  have hlt2 : w.heap.size < w2.heap.size := (Array.getElem?_eq_some_iff.1 hbk2).1
  clear hb2
  go_wp2_with fail
  refine (HC.out _ (Kd.C_below HR.out HB2.out)).mono ?_
  rintro e w3 ⟨v, rfl, hown, hb3⟩
  have HB3 := Lib.hid (below_next7 HB2.out HB2.out.size hb3)
  have hbk3 : w3.heap[w.heap.size]? = some (.cells #[.string p, .bool d, .string x] 65 (0, 0)) := (hb3.block _ hlt2).trans hbk2
  have hcell3 : w3.cell? ⟨w.heap.size, 0, none⟩ = some (.string p) := by simp [World.cell?, hbk3]
  obtain ⟨A3, c3, rfl, hc3, hC3⟩ := hown.reads
  have HOW := Lib.hid hown
  have HS := Lib.hid (search_calls A3 c3 [] p w3 hC3 hc3 (by simp))
  have HSZ := Lib.hid hb3.size
  clear hown hb3 hC3
  go_wp2_with fail
  refine HS.out.mono ?_
  rintro e w4 ⟨rfl, hb4⟩
  have HB4 := Lib.hid (below_next7 HB3.out HB3.out.size hb4)
  have hbk4 : w4.heap[w.heap.size]? = some (.cells #[.string p, .bool d, .string x] 65 (0, 0)) := (hb4.block _ (by have := HSZ.out; omega)).trans hbk3
  have hcell40 : w4.cell? ⟨w.heap.size, 0, none⟩ = some (.string p) := by simp [World.cell?, hbk4]
  have hcell41 : w4.cell? ⟨w.heap.size, 1, none⟩ = some (.bool d) := by simp [World.cell?, hbk4]
  have hcell42 : w4.cell? ⟨w.heap.size, 2, none⟩ = some (.string x) := by simp [World.cell?, hbk4]
  have hbs : bs [] p = 0 := rfl
  have hbi : bsIs [] p = false := rfl
  have how4 : OwnT (w4.alloc (.cells #[.string p, .bool d, .string x] 65)) w2.heap.size (.slice A3 ([] : List S65).length c3) [] := by
    unfold OwnT
    exact (pw_own_below HOW.out hb4).alloc _
  have HSZ4 := Lib.hid hb4.size
  have HINS := Lib.hid (insert_end (.slice A3 ([] : List S65).length c3) w2.heap.size [] ⟨p, d, x⟩ w4.heap.size (w4.alloc (.cells #[.string p, .bool d, .string x] 65)) how4 (by simp) (by have h1 := HSZ.out; have h2 := HSZ4.out; simp; omega)
    (fun j u hj => by
      have hk : (w4.alloc (.cells #[.string p, .bool d, .string x] 65)).heap[w4.heap.size]? = some (.cells #[.string p, .bool d, .string x] 65 (0, 0)) := World.alloc_heap_new w4 _
      rw [addr_add, Nat.zero_add]
      simp only [World.cell?, hk]
      simpa [cellsN] using hj))
  have HOB := Lib.hid (fun k (hk : (Value.slice A3 ([] : List S65).length c3).ownBlock = some k) => own_blk how4 hk)
  clear hb4 HOW how4
  go_wp2_with fail
  refine HINS.out.mono ?_
  rintro e w5 ⟨v5, rfl, hown5, hg5⟩
  have hb5 : Below w.heap.size w w5 := by
    refine (HB4.out.alloc HB4.out.size _).grown hg5 (by have := HB4.out.size; simp; omega) (fun k e => ?_)
    have h1 := HOB.out k e
    have h2 := HB2.out.size
    omega
  have HB5 := Lib.hid hb5
  change OwnT w5 w2.heap.size v5 [⟨p, d, x⟩] at hown5
  obtain ⟨A5, c5, rfl, hc5, hC5⟩ := hown5.reads
  have HOW5 := Lib.hid hown5
  have HSIZE := Lib.hid (T.tree_size.calls 2 A5 c5 [⟨p, d, x⟩] _ w5 hC5 hc5 (size_some [⟨p, d, x⟩] (by simp [total]; omega) (by simp)))
  have htot : total [(⟨p, d, x⟩ : S65)] = x.size := by simp [total]
  rw [htot] at HSIZE
  clear hown5 hg5 hb5 hC5
  by_cases hsz : x.size ≤ 65536
  · have he := HE.out
    rw [if_pos hsz] at he
    obtain ⟨rfl, rfl⟩ : r1 = [⟨p, d, x⟩] ∧ r2 = 0 := by cases he; exact ⟨rfl, rfl⟩
    have hd : decide ((65536 : Int) < (x.size : Int)) = false := decide_eq_false (by omega)
    clear he HE
    go_wp2_with fail
    refine HSIZE.out.mono ?_
    rintro e w6 ⟨rfl, hb6⟩
    have HB6 := Lib.hid (below_next7 HB5.out HB5.out.size hb6)
    have HOW6 := Lib.hid (pw_own_below HOW5.out hb6)
    clear hb6
    go_wp2_with fail
    go_ret2
    exact ⟨_, rfl, Kd.R_lower (OwnT.R HOW6.out) (by have := HB2.out.size; omega), HB6.out⟩
  · have he := HE.out
    rw [if_neg hsz] at he
    obtain ⟨rfl, rfl⟩ : r1 = [] ∧ r2 = 17 := by cases he; exact ⟨rfl, rfl⟩
    have hd : decide ((65536 : Int) < (x.size : Int)) = true := decide_eq_true (by omega)
    clear he HE
    go_wp2_with fail
    refine HSIZE.out.mono ?_
    rintro e w6 ⟨rfl, hb6⟩
    have HB6 := Lib.hid (below_next7 HB5.out HB5.out.size hb6)
    clear hb6
    go_wp2_with fail
    go_ret2
    exact ⟨_, rfl, Kd.R_nil _ _ _ _ _, HB6.out⟩
end Go.Proofs.YtdfddiehiiaepaaDoor.Ext

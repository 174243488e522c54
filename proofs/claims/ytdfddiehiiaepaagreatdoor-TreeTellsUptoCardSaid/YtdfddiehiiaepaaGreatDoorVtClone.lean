/- Proved: slices.Clone of nodes: a slice of its own with the same nodes. Condition: at most 2 to the 40 nodes. -/
import Derived.Test.YtdfddiehiiaepaaGreatDoorVtTreeN
import Derived.Maps.AppendAt
import Derived.OwnWalk
import Derived.Lib.SliceRun
set_option linter.unusedVariables false
set_option linter.unusedSimpArgs false
namespace Go.Proofs.YtdfddiehiiaepaaGreatDoor.Ext
open Go.RowKit Go.Shelf Go.Proofs.YtdfddiehiiaepaaGreatDoorW.PrintWords Go.Proofs.YtdfddiehiiaepaaGreatDoor.P
/-- A node's cells; a tree's. -/
def cellsN (n : S73) : List Value := [.string n.f0, .bool n.f1, .string n.f2]
def cellsT : List S73 → List Value
  | [] => []
  | n :: t => .string n.f0 :: .bool n.f1 :: .string n.f2 :: cellsT t
theorem cellsT_len : ∀ t, (cellsT t).length = t.length * 3
  | [] => rfl
  | n :: t => by simp only [cellsT, List.length_cons, cellsT_len t]; omega
theorem cellsT_append : ∀ s t, cellsT (s ++ t) = cellsT s ++ cellsT t
  | [], t => rfl
  | n :: s, t => by simp only [List.cons_append, cellsT, cellsT_append s t]
theorem cellsT_one : ∀ t, ∀ u ∈ cellsT t, u.oneCell' = true
  | [], u, h => by simp [cellsT] at h
  | n :: t, u, h => by
    simp only [cellsT, List.mem_cons] at h
    rcases h with rfl | rfl | rfl | h
    · rfl
    · rfl
    · rfl
    · exact cellsT_one t u h
theorem cellsT_drop : ∀ t i, (cellsT t).drop (i * 3) = cellsT (t.drop i)
  | t, 0 => by simp
  | [], i + 1 => by simp [cellsT]
  | n :: t, i + 1 => by
    rw [show (i + 1) * 3 = i * 3 + 1 + 1 + 1 by omega]
    simp only [cellsT, List.drop_succ_cons]
    exact cellsT_drop t i
theorem cellsT_take : ∀ t i, (cellsT t).take (i * 3) = cellsT (t.take i)
  | t, 0 => by simp [cellsT]
  | [], i + 1 => by simp [cellsT]
  | n :: t, i + 1 => by
    rw [show (i + 1) * 3 = i * 3 + 1 + 1 + 1 by omega]
    simp only [cellsT, List.take_succ_cons]
    rw [cellsT_take t i]
theorem cellsT_at (t : List S73) (i : Nat) (h : i < t.length) : (cellsT t)[i * 3]? = some (.string (rd_T73 t (i : Int)).f0) ∧ (cellsT t)[i * 3 + 1]? = some (.bool (rd_T73 t (i : Int)).f1) ∧ (cellsT t)[i * 3 + 2]? = some (.string (rd_T73 t (i : Int)).f2) := by
  have e : cellsT (t.drop i) = .string (rd_T73 t (i : Int)).f0 :: .bool (rd_T73 t (i : Int)).f1 :: .string (rd_T73 t (i : Int)).f2 :: cellsT (t.drop (i + 1)) := by
    rw [List.drop_eq_getElem_cons h, cellsT]
    unfold rd_T73
    rw [Int.toNat_natCast, List.getD_eq_getElem?_getD, List.getElem?_eq_getElem h, Option.getD_some]
  have hd := cellsT_drop t i
  rw [e] at hd
  have g : ∀ j, (cellsT t)[i * 3 + j]? = ((cellsT t).drop (i * 3))[j]? := fun j => by rw [List.getElem?_drop]
  refine ⟨?_, ?_, ?_⟩
  · have := g 0
    rw [hd] at this
    exact this
  · have := g 1
    rw [hd] at this
    exact this
  · have := g 2
    rw [hd] at this
    exact this
/-- A slice of the call's own that holds a tree. -/
def OwnT (W : World) (base : Nat) (v : Value) (t : List S73) : Prop := W.ownsRow base 73 3 v t.length (cellsT t)
theorem OwnT.R {W : World} {base : Nat} {v : Value} {t : List S73} (h : OwnT W base v t) : Kd.R k73 73 W base (fun _ => True) v t := by
  refine ⟨fun _ _ => trivial, cellsT t, h, by rw [cellsT_len]; rfl, fun j p hj => ?_⟩
  obtain ⟨hj1, hj2⟩ := List.getElem?_eq_some_iff.1 hj
  have e : ((cellsT t).drop (j * 3)).take 3 = [.string p.f0, .bool p.f1, .string p.f2] := by
    rw [cellsT_drop, List.drop_eq_getElem_cons hj1, cellsT, hj2]
    rfl
  show k73.M W base _ p (((cellsT t).drop (j * 3)).take 3)
  rw [e]
  exact k73_mkM _ _ _ _
theorem OwnT.reads {W : World} {base : Nat} {v : Value} {t : List S73} (h : OwnT W base v t) : ∃ A c, v = .slice A t.length c ∧ t.length ≤ c ∧ Kd.C k73 W A t.length t := Kd.R_reads h.R
theorem C_cells {W : World} {a : Addr} {t : List S73} (h : Kd.C k73 W (some a) t.length t) : ∀ j u, (cellsT t)[j]? = some u → W.cell? (a.add j) = some u := by
  intro j u hj
  have hlt := (List.getElem?_eq_some_iff.1 hj).1
  rw [cellsT_len] at hlt
  obtain ⟨ad, e, h0, h1, h2⟩ := at_T73 h (j / 3 : Nat) (by omega) (by omega)
  cases e
  obtain ⟨g0, g1, g2⟩ := cellsT_at t (j / 3) (by omega)
  simp only [Int.toNat_natCast] at h0 h1 h2
  rcases Nat.lt_or_ge (j % 3) 1 with hm | hm
  · have hje : j = j / 3 * 3 := by omega
    rw [hje] at hj
    rw [g0] at hj
    cases hj
    rw [hje]
    rw [show j / 3 * 3 / 3 = j / 3 by omega] at *
    exact h0
  · rcases Nat.lt_or_ge (j % 3) 2 with hm2 | hm2
    · have hje : j = j / 3 * 3 + 1 := by omega
      rw [← add_field _ _ 1 (by omega), ← hje] at h1
      rw [← hje, hj] at g1
      cases g1
      exact h1
    · have hje : j = j / 3 * 3 + 2 := by omega
      rw [← add_field _ _ 2 (by omega), ← hje] at h2
      rw [← hje, hj] at g2
      cases g2
      exact h2
theorem C_none {W : World} {t : List S73} (h : Kd.C k73 W none t.length t) : t = [] := by
  cases t with
  | nil => rfl
  | cons n t =>
    obtain ⟨ad, e, _⟩ := at_T73 h 0 (by omega) (by simp)
    cases e
theorem infoN : (Tryz.prog.info? 73).map (fun i => (i.zero, i.size, i.bytes)) = some (some (.agg #[(.string ⟨#[]⟩), (.bool false), (.string ⟨#[]⟩)]), 3, 40) := by kernel_rfl
set_option maxHeartbeats 4000000 in
set_option maxRecDepth 100000 in
theorem clone_calls (A : Option Addr) (c : Nat) (t : List S73) (w : World) (hr : Kd.C k73 w A t.length t) (hc : t.length ≤ c) (hl : t.length ≤ 1099511627776) :
    Calls Tryz.prog 66 #[.slice A t.length c] w fun e w' => ∃ v, e = .returned v ∧ OwnT w' w.heap.size v t ∧ Below w.heap.size w w' := by
  have q23 : ∀ (w : World) (a : Option Addr) (n c n' c' : Nat), (binOp .eql 23 (.slice a n c) (.slice none n' c')).run Tryz.prog w = .ok (.bool a.isNone) w := fun w a n c n' c' => Lib.run_eql_slice_nil w _ _ a n c n' c' Tryz.underlying23
  have u23 : ∀ w, Sem.run Tryz.prog (underlying 23) w = .ok (TypeDesc.slice 73) w := run_underlying Tryz.underlying23
  cases A with
  | none =>
    obtain rfl := C_none hr
    go_enter Tryz.func66, Tryz.ntmps66
    go_wp2
    go_ret
    exact ⟨_, rfl, World.ownsRow_nil _ _ _ _, Below.refl _ _⟩
  | some a =>
    obtain ⟨i0, hi, hz0, hz1, hz2⟩ := info_parts infoN
    have hcell := C_cells (Kd.C_below hr ((Below.refl _ w).alloc (Nat.le_refl _) (.cells #[] 73)))
    have hmx : (1099511627776 : Nat) + 2 ≤ maxLen := by decide
    have hone := cellsT_one t
    have hlen := cellsT_len t
    have hmade : (w.alloc (.cells #[] 73)).ownsRow w.heap.size 73 3 (.slice (some ⟨w.heap.size, 0, none⟩) 0 0) 0 [] :=
      ⟨rfl, .inr ⟨w.heap.size, 0, #[], rfl, Nat.le_refl _, World.alloc_heap_new _ _, Nat.le_refl _, Nat.zero_le _, rfl, rfl⟩⟩
    clear hr
    go_enter Tryz.func66, Tryz.ntmps66
    go_wp2_with (at_builtin; refine wpList_append_own _ rfl _ _ 23 rfl w.heap.size 73 i0 (.agg #[(.string ⟨#[]⟩), (.bool false), (.string ⟨#[]⟩)]) 3 40 Tryz.underlying23 hi hz0 hz1 hz2 rfl (by decide) _ _ _ rfl hmade a t.length c (cellsT t) rfl hlen hcell hone (by omega) (by omega) (by simp) ?_)
    intro v' w1 hown hgrow hnil
    go_wp2
    go_ret
    refine ⟨v', rfl, by simpa [OwnT] using hown, ?_⟩
    exact ((Below.refl _ w).alloc (Nat.le_refl _) _).grown hgrow (by simp) (by intro k hk; simp [Value.ownBlock] at hk; omega)
end Go.Proofs.YtdfddiehiiaepaaGreatDoor.Ext

/- Proved: slices.Insert of one node at the end. Condition: at most 2 to the 40 nodes. -/
import Derived.Test.YtdfddiehiiaepaaGreatDoorVtClone
import Derived.Test.YtdfddiehiiaepaaGreatDoorVtCheck
set_option linter.unusedVariables false
set_option linter.unusedSimpArgs false
namespace Go.Proofs.YtdfddiehiiaepaaGreatDoor.Ext
open Go.RowKit Go.Shelf Go.Proofs.YtdfddiehiiaepaaGreatDoorW.PrintWords Go.Proofs.YtdfddiehiiaepaaGreatDoor.P
set_option maxHeartbeats 4000000 in
set_option maxRecDepth 100000 in
/-- slices.Insert at the end: behind all. -/
theorem insert_end (v : Value) (base : Nat) (t : List S73) (n : S73) (vb : Nat) (w : World) (hv : OwnT w base v t) (hl : t.length ≤ 1099511627776) (hb : base ≤ w.heap.size)
    (hn : ∀ j u, (cellsN n)[j]? = some u → w.cell? ((⟨vb, 0, none⟩ : Addr).add j) = some u) :
    Calls Tryz.prog 91 #[v, .int .i64 t.length, .slice (some ⟨vb, 0, none⟩) 1 1] w fun e w' => ∃ v', e = .returned v' ∧ OwnT w' base v' (t ++ [n]) ∧ w.grownBy w' v.ownBlock := by
  obtain ⟨i0, hi, hz0, hz1, hz2⟩ := info_parts infoN
  have u23 : ∀ w, Sem.run Tryz.prog (underlying 23) w = .ok (TypeDesc.slice 73) w := run_underlying Tryz.underlying23
  have hmx : (1099511627776 : Nat) + 2 ≤ maxLen := by decide
  obtain ⟨A, c, rfl, hc, _⟩ := hv.reads
  unfold OwnT at hv
  have hone : ∀ u ∈ cellsN n, u.oneCell' = true := by
    intro u hu
    simp [cellsN] at hu
    rcases hu with rfl | rfl | rfl <;> rfl
  have HV := Lib.hid hv
  have HN := Lib.hid hn
  clear hv hn
  go_enter Tryz.func91, Tryz.ntmps91
  go_wp2_with (at_builtin; refine wpList_append_own _ rfl _ _ 23 rfl base 73 i0 (.agg #[(.string ⟨#[]⟩), (.bool false), (.string ⟨#[]⟩)]) 3 40 Tryz.underlying23 hi hz0 hz1 hz2 rfl (by decide) _ _ _ rfl HV.out ⟨vb, 0, none⟩ 1 1 (cellsN n) rfl rfl HN.out hone (by omega) (by omega) hb ?_)
  all_goals
    intro v' w1 hown hgrow hnil
    have HO := Lib.hid hown
    have HG := Lib.hid hgrow
    clear hown hgrow hnil
    go_wp2
    go_ret
    refine ⟨_, rfl, ?_, by first | exact HG.out | (rw [‹c = t.length›]; exact HG.out)⟩
    unfold OwnT
    rw [List.length_append, cellsT_append]
    exact HO.out
end Go.Proofs.YtdfddiehiiaepaaGreatDoor.Ext

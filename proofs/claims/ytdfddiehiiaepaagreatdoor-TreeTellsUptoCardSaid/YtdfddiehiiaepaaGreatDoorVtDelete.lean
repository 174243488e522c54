/- Proved: slices.DeleteFunc of nodes in a slice of the call's own, at whatever predicate that a function value gives: the nodes of which it does not hold. Condition: at most 2 to the 40 nodes. -/
import Derived.Test.YtdfddiehiiaepaaGreatDoorVtClone
import Derived.Lib.SliceRun
import Derived.Laws.IdiomCopy
set_option linter.unusedVariables false
set_option linter.unusedSimpArgs false
namespace Go.Proofs.YtdfddiehiiaepaaGreatDoor.Ext
open Go.RowKit Go.Shelf Go.Proofs.YtdfddiehiiaepaaGreatDoorW.PrintWords Go.Proofs.YtdfddiehiiaepaaGreatDoor.P
/-- A store into a row of cells. -/
theorem setCell_block {w : World} {g e o : Nat} {cur : Array Value} {fr : Nat × Nat} (h : w.heap[g]? = some (.cells cur e fr)) (ho : o < cur.size) (v : Value) :
    ∃ cur', (w.setCell ⟨g, o, none⟩ v).heap[g]? = some (.cells cur' e fr) ∧ cur'.size = cur.size ∧ cur'.toList = cur.toList.take o ++ v :: cur.toList.drop (o + 1) := by
  obtain ⟨hlt, hk⟩ := Array.getElem?_eq_some_iff.1 h
  refine ⟨cur.setIfInBounds o v, ?_, by simp, ?_⟩
  · show (w.heap.modify g _)[g]? = _
    rw [Array.getElem?_eq_getElem (by rw [Array.size_modify]; exact hlt), Array.getElem_modify_self, hk]
    rfl
  · rw [Array.toList_setIfInBounds, List.set_eq_take_append_cons_drop, if_pos (by simpa using ho)]
theorem setCells_block : ∀ (vs : List Value) {w : World} {g e o : Nat} {cur : Array Value} {fr : Nat × Nat}, w.heap[g]? = some (.cells cur e fr) → o + vs.length ≤ cur.size →
    ∃ cur', (w.setCells g o vs).heap[g]? = some (.cells cur' e fr) ∧ cur'.size = cur.size ∧ cur'.toList = cur.toList.take o ++ vs ++ cur.toList.drop (o + vs.length)
  | [], w, g, e, o, cur, fr, h, ho => ⟨cur, h, rfl, by simp⟩
  | v :: vs, w, g, e, o, cur, fr, h, ho => by
    simp only [List.length_cons] at ho
    obtain ⟨c1, h1, h2, h3⟩ := setCell_block h (o := o) (by omega) v
    obtain ⟨c2, g1, g2, g3⟩ := setCells_block vs h1 (o := o + 1) (by omega)
    refine ⟨c2, g1, by omega, ?_⟩
    have hlen : (cur.toList.take o).length = o := by rw [List.length_take]; simp; omega
    rw [g3, h3]
    have e1 : (cur.toList.take o ++ v :: cur.toList.drop (o + 1)).take (o + 1) = cur.toList.take o ++ [v] := by
      rw [show cur.toList.take o ++ v :: cur.toList.drop (o + 1) = (cur.toList.take o ++ [v]) ++ cur.toList.drop (o + 1) by simp]
      rw [List.take_left' (by simp; omega)]
    have e2 : (cur.toList.take o ++ v :: cur.toList.drop (o + 1)).drop (o + 1 + vs.length) = cur.toList.drop (o + (v :: vs).length) := by
      rw [show cur.toList.take o ++ v :: cur.toList.drop (o + 1) = (cur.toList.take o ++ [v]) ++ cur.toList.drop (o + 1) by simp]
      rw [List.drop_append, List.drop_eq_nil_of_le (by simp; omega), List.nil_append, List.drop_drop]
      congr 1
      simp
      omega
    rw [e1, e2]
    simp
theorem setCells_other (g : Nat) : ∀ (vs : List Value) (o : Nat) (w : World) (k : Nat), k ≠ g → (w.setCells g o vs).heap[k]? = w.heap[k]?
  | [], _, _, _, _ => rfl
  | v :: vs, o, w, k, hk => (setCells_other g vs (o + 1) _ k hk).trans (Below.heap_setCell w ⟨g, o, none⟩ v k hk)
theorem setCells_below (g : Nat) {B : Nat} {a : World} (hB : B ≤ g) : ∀ (vs : List Value) (o : Nat) (w : World), Below B a w → Below B a (w.setCells g o vs)
  | [], _, _, h => h
  | v :: vs, o, w, h => setCells_below g hB vs (o + 1) _ (h.setCell (p := ⟨g, o, none⟩) hB v)
theorem splice {α : Type} (A X : List α) (o N : Nat) (h1 : o + X.length ≤ N) (h2 : N ≤ A.length) : (A.take o ++ X ++ A.drop (o + X.length)).take N = (A.take N).take o ++ X ++ (A.take N).drop (o + X.length) := by
  have hB : (A.take N).length = N := by rw [List.length_take]; omega
  have e1 : A.take o = (A.take N).take o := by rw [List.take_take]; congr 1; omega
  have e2 : A.drop (o + X.length) = (A.take N).drop (o + X.length) ++ A.drop N := by
    have h := congrArg (List.drop (o + X.length)) (List.take_append_drop N A)
    rw [List.drop_append_of_le_length (by omega)] at h
    exact h.symm
  rw [e1, e2, ← List.append_assoc, List.take_left']
  rw [List.length_append, List.length_append, List.length_take, List.length_drop, hB]
  omega
/-- A node put into its place. -/
theorem OwnT.put {w : World} {base g n cap : Nat} {L : List S73} {i : Nat} {x : S73} (h : OwnT w base (.slice (some ⟨g, 0, none⟩) n cap) L) (hn : L.length = n) (hi : i < n) :
    OwnT (w.setCells g (i * 3) (cellsN x)) base (.slice (some ⟨g, 0, none⟩) n cap) (L.set i x) := by
  unfold OwnT at h ⊢
  obtain ⟨h1, h2⟩ := h
  refine ⟨by rw [cellsT_len], ?_⟩
  rcases h2 with ⟨h2, _⟩ | ⟨g', cap', cur, h2, hb, hh, h5, h6, h7, h8⟩
  · cases h2
  · cases h2
    obtain ⟨c', k1, k2, k3⟩ := setCells_block (cellsN x) hh (o := i * 3) (by rw [h7]; show i * 3 + 3 ≤ cap * 3; omega)
    refine .inr ⟨g, cap, c', by rw [List.length_set, hn], hb, k1, by rw [List.length_set]; exact h5, h6, by rw [k2, h7], ?_⟩
    rw [List.length_set, hn, k3]
    rw [hn] at h8
    have e1 : cellsT (L.set i x) = (cellsT L).take (i * 3) ++ cellsN x ++ (cellsT L).drop (i * 3 + 3) := by
      rw [List.set_eq_take_append_cons_drop, if_pos (by omega), cellsT_append, cellsT, cellsT_take, show i * 3 + 3 = (i + 1) * 3 by omega, cellsT_drop]
      simp [cellsN]
    rw [e1, ← h8]
    have hcur : cur.toList.length = cap * 3 := by simpa using h7
    exact splice cur.toList (cellsN x) (i * 3) (L.length * 3) (by show i * 3 + 3 ≤ _; omega) (by omega)
theorem OwnT.same {w w' : World} {base : Nat} {v : Value} {L : List S73} (h : OwnT w base v L) (hm : ∀ k, base ≤ k → k < w.heap.size → w'.heap[k]? = w.heap[k]?) : OwnT w' base v L := own_by h hm
theorem OwnT.at {w : World} {base g n cap : Nat} {L : List S73} (h : OwnT w base (.slice (some ⟨g, 0, none⟩) n cap) L) (hn : L.length = n) : g < w.heap.size ∧ base ≤ g ∧ n ≤ cap ∧ cap ≤ maxLen ∧ ∃ cur, w.heap[g]? = some (.cells cur 73 (0, 0)) ∧ cur.size = cap * 3 ∧ cur.toList.take (n * 3) = cellsT L := by
  unfold OwnT at h
  rcases h.2 with ⟨h2, _⟩ | ⟨g', cap', cur, h2, hb, hh, h5, h6, h7, h8⟩
  · cases h2
  · cases h2
    exact ⟨(Array.getElem?_eq_some_iff.1 hh).1, hb, by omega, h6, cur, hh, h7, by rw [← hn]; exact h8⟩
/-- What a function value answers of each node, in every world that keeps what lay below base. -/
def Gives (fn : Nat) (lb : Array Value) (p : S73 → Bool) (base : Nat) (w : World) (t : List S73) : Prop :=
  ∀ n ∈ t, ∀ W : World, Below base w W → Calls Tryz.prog fn (#[.agg #[.string n.f0, .bool n.f1, .string n.f2]] ++ lb) W fun e W' => e = .returned (.bool (p n)) ∧ Below W.heap.size W W'
set_option maxHeartbeats 4000000 in
set_option maxRecDepth 100000 in
theorem indexFunc_calls (fn : Nat) (lb : Array Value) (eg : ∀ args w, (callFunc fn args).run Tryz.prog w = .ok (.enter fn args) w) (p : S73 → Bool) (base : Nat) (A : Option Addr) (c : Nat) (t : List S73) (w : World)
    (hr : Kd.C k73 w A t.length t) (hc : t.length ≤ c) (hl : t.length ≤ 1099511627776) (hb : base ≤ w.heap.size) (hg : Gives fn lb p base w t) :
    Calls Tryz.prog 92 #[.slice A t.length c, .func (.func fn) #[] lb] w fun e w' =>
      ((e = .returned (.int .i64 (-1)) ∧ t.all (fun n => !p n) = true) ∨ ∃ i : Nat, e = .returned (.int .i64 i) ∧ i < t.length ∧ (t.take i).all (fun n => !p n) = true ∧ p (rd_T73 t (i : Int)) = true) ∧ Below w.heap.size w w' := by
  go_enter Tryz.func92, Tryz.ntmps92
  go_wp2
  go_loopw [8] (fun v wr => ∃ (i : Nat), v = .int .i64 (i : Int) ∧ i ≤ t.length ∧ (t.take i).all (fun n => !p n) = true ∧ Below w.heap.size w wr)
    (fun v _ => t.length - (intOf v).toNat)
  case atStart => exact ⟨0, rfl, Nat.zero_le _, rfl, Below.refl _ _⟩
  case round =>
    obtain ⟨i, rfl, hi, hno, hB⟩ := hrel
    have HB := Lib.hid hB
    clear hB
    by_cases hlt : i < t.length
    · have hd : decide ((i : Int) < (t.length : Int)) = true := decide_eq_true (by omega)
      have hgt : t[i]? = some (rd_T73 t (i : Int)) := by unfold rd_T73; simp [List.getD_eq_getElem?_getD, List.getElem?_eq_getElem hlt]
      have hmem : rd_T73 t (i : Int) ∈ t := List.mem_of_getElem? hgt
      have HC := Lib.hid (hg _ hmem wr (HB.out.mono hb))
      obtain ⟨ad, rfl, hx0, hx1, hx2⟩ := at_T73 (Kd.C_below hr HB.out) (i : Nat) (by omega) (by omega)
      simp only [Int.toNat_natCast] at hx0 hx1 hx2
      have hstep : (t.take (i + 1)).all (fun n => !p n) = !p (rd_T73 t (i : Int)) := by
        rw [List.take_add_one, hgt, List.all_append, hno]
        simp
      have HST := Lib.hid hstep
      have HNO := Lib.hid hno
      clear hno hstep hg
      go_wp2_with fail
      refine HC.out.mono ?_
      rintro e w1 ⟨rfl, hb2⟩
      have HB2 := Lib.hid (below_next7 HB.out HB.out.size hb2)
      clear hb2
      cases hn : p (rd_T73 t (i : Int))
      · go_wp2_with fail
        go_roundw
        case rel => exact ⟨i + 1, by simp, by omega, by rw [HST.out, hn]; rfl, HB2.out⟩
        case measure => simp [intOf]; omega
      · go_wp2_with fail
        go_ret
        exact ⟨.inr ⟨i, rfl, hlt, HNO.out, hn⟩, HB2.out⟩
    · obtain rfl : i = t.length := by omega
      have hd : decide ((t.length : Int) < (t.length : Int)) = false := decide_eq_false (by omega)
      rw [List.take_length] at hno
      have HNO := Lib.hid hno
      clear hno
      go_wp2_with fail
      go_ret
      exact ⟨.inl ⟨rfl, HNO.out⟩, HB.out⟩
theorem _root_.List.take_set_succ_7 {α : Type} {l : List α} {i : Nat} {x : α} (h : i < l.length) : (l.set i x).take (i + 1) = l.take i ++ [x] := by
  rw [List.set_eq_take_append_cons_drop, if_pos h, show l.take i ++ x :: l.drop (i + 1) = (l.take i ++ [x]) ++ l.drop (i + 1) by simp, List.take_left']
  simp
  omega
theorem frozen_row {w : World} {g e : Nat} {cur : Array Value} (h : w.heap[g]? = some (.cells cur e (0, 0))) (o : Nat) : w.frozen? ⟨g, o, none⟩ = false := by simp [World.frozen?, h]
theorem zeroN (w : World) : (zeroValue 73).run Tryz.prog w = .ok (.agg #[(.string ⟨#[]⟩), (.bool false), (.string ⟨#[]⟩)]) w := Tryz.zeroValue73 w
theorem zeroCells_len (n : Nat) : (Builtin.zeroCells (Value.agg #[(.string ⟨#[]⟩), (.bool false), (.string ⟨#[]⟩)]).cells n).toList.length = n * 3 := by
  simp [Builtin.zeroCells, Value.cells]
theorem zeroCells_one (n : Nat) : ∀ v ∈ (Builtin.zeroCells (Value.agg #[(.string ⟨#[]⟩), (.bool false), (.string ⟨#[]⟩)]).cells n).toList, v.oneCell' = true := by
  intro v hv
  simp [Builtin.zeroCells, Value.cells] at hv
  obtain ⟨k, _, rfl⟩ := hv
  have h3 : k % 3 = 0 ∨ k % 3 = 1 ∨ k % 3 = 2 := by omega
  rcases h3 with h | h | h <;> (rw [h]; rfl)
theorem run_clear_nodes (w : World) (ty : TypeId) (g o n c : Nat) (hn : 0 < n) (hc : ∀ j, j < n * 3 → (w.cell? ⟨g, o + j, none⟩).isSome = true) (hf : ∀ j, j < n * 3 → w.frozen? ⟨g, o + j, none⟩ = false) :
    (Builtin.clear_ #[23] ty #[.slice (some ⟨g, o, none⟩) n c]).run Tryz.prog w = .ok (.tuple #[]) (w.setCells g o (Builtin.zeroCells (Value.agg #[(.string ⟨#[]⟩), (.bool false), (.string ⟨#[]⟩)]).cells n).toList) := by
  have hst := run_storeCells_cells (P := Tryz.prog) g o (Builtin.zeroCells (Value.agg #[(.string ⟨#[]⟩), (.bool false), (.string ⟨#[]⟩)]).cells n).toList 0 w (by rw [zeroCells_len]; simpa using hc) (by rw [zeroCells_len]; simpa using hf) (zeroCells_one n)
  simp only [Nat.add_zero] at hst
  obtain ⟨m, rfl⟩ : ∃ m, n = m + 1 := ⟨n - 1, by omega⟩
  have hz := zeroN
  simp [Builtin.clear_, run_underlying Tryz.underlying23, hz, hst]
set_option maxHeartbeats 8000000 in
set_option maxRecDepth 100000 in
theorem delete_calls (fn : Nat) (lb : Array Value) (eg : ∀ args w, (callFunc fn args).run Tryz.prog w = .ok (.enter fn args) w) (p : S73 → Bool) (base : Nat) (v : Value) (t : List S73) (w : World)
    (hv : OwnT w base v t) (hl : t.length ≤ 1099511627776) (hb : base ≤ w.heap.size) (hg : Gives fn lb p base w t) :
    Calls Tryz.prog 65 #[v, .func (.func fn) #[] lb] w fun e w' => ∃ v', e = .returned v' ∧ OwnT w' base v' (t.filter fun n => !p n) ∧ Below base w w' := by
  obtain ⟨A, c, rfl, hc, hC⟩ := hv.reads
  have HI := Lib.hid (indexFunc_calls fn lb eg p base A c t w hC hc hl hb hg)
  have HV := Lib.hid hv
  clear hv hC
  go_enter Tryz.func65, Tryz.ntmps65
  go_wp2_with fail
  refine HI.out.mono ?_
  rintro e w1 ⟨⟨rfl, hall⟩ | ⟨i0, rfl, hi0, hno, hyes⟩, hb1⟩
  · have hfil : (t.filter fun n => !p n) = t := List.filter_eq_self.2 (fun n hn => List.all_eq_true.1 hall n hn)
    have HF := Lib.hid hfil
    have HB1 := Lib.hid hb1
    clear hfil hb1 hall
    go_wp2_with fail
    go_ret
    exact ⟨_, rfl, by rw [HF.out]; exact HV.out.same (fun k _ hk => HB1.out.block k hk), HB1.out.mono hb⟩
  · obtain ⟨g, o, rfl⟩ : ∃ g, ∃ _ : Unit, A = some ⟨g, 0, none⟩ := by
      have h := HV.out
      unfold OwnT at h
      rcases h.2 with ⟨h2, h3⟩ | ⟨g, cap, cur, h2, _⟩
      · omega
      · cases h2
        exact ⟨g, (), rfl⟩
    have HNO := Lib.hid hno
    have HYES := Lib.hid hyes
    have HB1 := Lib.hid hb1
    have hne : ((i0 : Int) == -1) = false := beq_eq_false_iff_ne.2 (by omega)
    clear hno hyes hb1
    go_wp2_with fail
    go_loopw [5, 6] (fun vi vj wr => ∃ (i j : Nat) (L : List S73), vi = .int .i64 (i : Int) ∧ vj = .int .i64 (j : Int) ∧ i < j ∧ j ≤ t.length ∧ L.length = t.length ∧ L.take i = (t.take j).filter (fun n => !p n) ∧ L.drop j = t.drop j ∧
        OwnT wr base (.slice (some ⟨g, 0, none⟩) t.length c) L ∧ Below base w wr)
      (fun _ vj _ => t.length - (intOf vj).toNat)
    case atStart =>
      have e1 : (t.take (i0 + 1)).filter (fun n => !p n) = t.take i0 := by
        rw [List.take_add_one, List.filter_append, List.filter_eq_self.2 (fun n hn => List.all_eq_true.1 HNO.out n hn)]
        have : t[i0]? = some (rd_T73 t (i0 : Int)) := by unfold rd_T73; simp [List.getD_eq_getElem?_getD, List.getElem?_eq_getElem hi0]
        rw [this]
        simp [HYES.out]
      exact ⟨i0, i0 + 1, t, rfl, by simp, by omega, by omega, rfl, e1.symm, rfl, HV.out.same (fun k _ hk => HB1.out.block k hk), HB1.out.mono hb⟩
    case round =>
      obtain ⟨i, j, L, rfl, rfl, hij, hj, hL, hti, hdj, hO, hB⟩ := hrel
      obtain ⟨hglt, hbg, hnc, hcm, cur, hcur, hcs, htk⟩ := hO.at hL
      have HTI := Lib.hid hti
      have HDJ := Lib.hid hdj
      have HO := Lib.hid hO
      have HB := Lib.hid hB
      clear hti hdj
      by_cases hlt : j < t.length
      · have hd : decide ((j : Int) < (t.length : Int)) = true := decide_eq_true (by omega)
        have hgt : t[j]? = some (rd_T73 t (j : Int)) := by unfold rd_T73; simp [List.getD_eq_getElem?_getD, List.getElem?_eq_getElem hlt]
        have hLj : rd_T73 L (j : Int) = rd_T73 t (j : Int) := by
          have h := congrArg (fun l : List S73 => l[0]?) HDJ.out
          simp only [List.getElem?_drop, Nat.add_zero] at h
          unfold rd_T73
          rw [Int.toNat_natCast, List.getD_eq_getElem?_getD, List.getD_eq_getElem?_getD, h]
        have hmem : rd_T73 t (j : Int) ∈ t := List.mem_of_getElem? hgt
        obtain ⟨A2, c2, e2, _, hC2⟩ := hO.reads
        have e4 : A2 = some ⟨g, 0, none⟩ := by injection e2 with h1; exact h1.symm
        subst e4
        clear e2
        obtain ⟨ad, e3, hx0, hx1, hx2⟩ := at_T73 hC2 (j : Nat) (by omega) (by omega)
        cases e3
        rw [hLj] at hx0 hx1 hx2
        simp only [Int.toNat_natCast, addr_add, Nat.zero_add] at hx0 hx1 hx2
        clear hO hB hC2
        generalize hX : rd_T73 t (j : Int) = X at *
        have HC := Lib.hid (hg X hmem (wr.alloc (.cells #[.string X.f0, .bool X.f1, .string X.f2] 73)) (HB.out.alloc (Nat.le_trans hb HB.out.size) _))
        have hgg := HB.out.size
        go_wp2_with fail
        refine HC.out.mono ?_
        rintro e w2 ⟨rfl, hb2⟩
        have hbox : w2.heap[wr.heap.size]? = some (.cells #[.string X.f0, .bool X.f1, .string X.f2] 73 (0, 0)) := (hb2.block _ (by simp)).trans (World.alloc_heap_new wr _)
        have hc0 : w2.cell? ⟨wr.heap.size, 0, none⟩ = some (.string X.f0) := by simp [World.cell?, hbox]
        have hc1 : w2.cell? ⟨wr.heap.size, 1, none⟩ = some (.bool X.f1) := by simp [World.cell?, hbox]
        have hc2 : w2.cell? ⟨wr.heap.size, 2, none⟩ = some (.string X.f2) := by simp [World.cell?, hbox]
        have hrow : ∀ k, k < wr.heap.size → w2.heap[k]? = wr.heap[k]? := fun k hk => (hb2.block k (by simp; omega)).trans (Below.heap_alloc wr _ k hk)
        have HO2 := Lib.hid (HO.out.same (w' := w2) (fun k _ hk => hrow k hk))
        have hcur2 : w2.heap[g]? = some (.cells cur 73 (0, 0)) := (hrow g hglt).trans hcur
        have HB2 := Lib.hid ((HB.out.alloc (Nat.le_trans hb HB.out.size) (.cells #[.string X.f0, .bool X.f1, .string X.f2] 73)).trans (hb2.mono (by simp; omega)))
        clear hb2 hrow
        cases hp : p X
        · obtain ⟨A3, c3, e3, _, hC3⟩ := HO2.out.reads
          have e4 : A3 = some ⟨g, 0, none⟩ := by injection e3 with h1; exact h1.symm
          subst e4
          clear e3
          obtain ⟨ad, e3, hy0, hy1, hy2⟩ := at_T73 hC3 (i : Nat) (by omega) (by omega)
          cases e3
          simp only [Int.toNat_natCast, addr_add, Nat.zero_add] at hy0 hy1 hy2
          have hf0 := frozen_row hcur2 (i * 3)
          have hf1 := frozen_row hcur2 (i * 3 + 1)
          have hf2 := frozen_row hcur2 (i * 3 + 2)
          have hi2 : (i : Int) ≤ (t.length : Int) := by omega
          clear hC3
          go_wp2_with fail
          go_roundw
          case rel =>
            refine ⟨i + 1, j + 1, L.set i X, by simp, by simp, by omega, by omega, by rw [List.length_set, hL], ?_, ?_, HO2.out.put hL (by omega), setCells_below g hbg (cellsN X) (i * 3) w2 HB2.out⟩
            · rw [List.take_set_succ_7 (by omega), HTI.out, List.take_add_one, hgt, List.filter_append]
              simp [hp]
            · rw [List.drop_set_of_lt (by omega), ← List.drop_drop, HDJ.out, List.drop_drop]
          case measure => simp [intOf]; omega
        · go_wp2_with fail
          go_roundw
          case rel =>
            refine ⟨i, j + 1, L, rfl, by simp, by omega, by omega, hL, ?_, ?_, HO2.out, HB2.out⟩
            · rw [HTI.out, List.take_add_one, hgt, List.filter_append]
              simp [hp]
            · rw [← List.drop_drop, HDJ.out, List.drop_drop]
          case measure => simp [intOf]; omega
      · obtain rfl : j = t.length := by omega
        have hd : decide ((t.length : Int) < (t.length : Int)) = false := decide_eq_false (by omega)
        clear hO hB
        have hcsz : cur.toList.length = c * 3 := by simpa using hcs
        have hcl : ∀ ty, (Builtin.clear_ #[23] ty #[.slice (some ⟨g, i * 3, none⟩) (t.length - i) (c - i)]).run Tryz.prog wr = .ok (.tuple #[]) (wr.setCells g (i * 3) (Builtin.zeroCells (Value.agg #[(.string ⟨#[]⟩), (.bool false), (.string ⟨#[]⟩)]).cells (t.length - i)).toList) := fun ty =>
          run_clear_nodes wr ty g (i * 3) (t.length - i) (c - i) (by omega) (fun k hk => by simp [World.cell?, hcur, hcs]; omega) (fun k hk => frozen_row hcur _)
        obtain ⟨cur', k1, k2, k3⟩ := setCells_block (Builtin.zeroCells (Value.agg #[(.string ⟨#[]⟩), (.bool false), (.string ⟨#[]⟩)]).cells (t.length - i)).toList hcur (o := i * 3) (by rw [zeroCells_len, hcs]; omega)
        have HBZ := Lib.hid (setCells_below g hbg (Builtin.zeroCells (Value.agg #[(.string ⟨#[]⟩), (.bool false), (.string ⟨#[]⟩)]).cells (t.length - i)).toList (i * 3) wr HB.out)
        generalize (Builtin.zeroCells (Value.agg #[(.string ⟨#[]⟩), (.bool false), (.string ⟨#[]⟩)]).cells (t.length - i)).toList = zs at *
        have hic : (i : Int) ≤ (c : Int) := by omega
        have hfl : t.filter (fun n => !p n) = L.take i := by rw [HTI.out, List.take_length]
        have HFL := Lib.hid hfl
        clear hfl
        go_wp2_with fail
        go_ret
        refine ⟨_, rfl, ?_, HBZ.out⟩
        rw [HFL.out]
        have hlen : (L.take i).length = i := by rw [List.length_take]; omega
        unfold OwnT
        rw [hlen]
        refine ⟨by rw [cellsT_len, hlen], .inr ⟨g, c, cur', rfl, hbg, k1, by omega, hcm, by rw [k2, hcs], ?_⟩⟩
        rw [k3, List.append_assoc, List.take_left' (by rw [List.length_take]; omega), ← cellsT_take, ← htk, List.take_take]
        congr 1
        omega
end Go.Proofs.YtdfddiehiiaepaaGreatDoor.Ext

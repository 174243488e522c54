/- Proved: slices.DeleteFunc of variables in a slice of the call's own: those of which a predicate does not hold; the blocks besides the row stay. Condition: at most 2 to the 40 variables. -/
import Derived.Test.YteoimkgjngdkdaaDoorVcDelV
set_option linter.unusedVariables false
set_option linter.unusedSimpArgs false
namespace Go.Proofs.YteoimkgjngdkdaaDoor.Ext
open Go.RowKit Go.Shelf Go.Proofs.YteoimkgjngdkdaaDoorW.PrintWords Go.Proofs.YteoimkgjngdkdaaDoor.P
theorem take_set_succV {α : Type} {l : List α} {i : Nat} {x : α} (h : i < l.length) : (l.set i x).take (i + 1) = l.take i ++ [x] := by
  rw [List.set_eq_take_append_cons_drop, if_pos h, show l.take i ++ x :: l.drop (i + 1) = (l.take i ++ [x]) ++ l.drop (i + 1) by simp, List.take_left']
  simp
  omega
theorem frozen_rowV {w : World} {g e : Nat} {cur : Array Value} (h : w.heap[g]? = some (.cells cur e (0, 0))) (o : Nat) : w.frozen? ⟨g, o, none⟩ = false := by simp [World.frozen?, h]
theorem zeroV (w : World) : (zeroValue 53).run Tryd.prog w = .ok (.agg #[(.string ⟨#[]⟩), (.string ⟨#[]⟩), (.bool false), (.slice none 0 0)]) w := Tryd.zeroValue53 w
theorem zeroCellsV_len (n : Nat) : (Builtin.zeroCells (Value.agg #[(.string ⟨#[]⟩), (.string ⟨#[]⟩), (.bool false), (.slice none 0 0)]).cells n).toList.length = n * 4 := by
  simp [Builtin.zeroCells, Value.cells]
theorem zeroCellsV_one (n : Nat) : ∀ v ∈ (Builtin.zeroCells (Value.agg #[(.string ⟨#[]⟩), (.string ⟨#[]⟩), (.bool false), (.slice none 0 0)]).cells n).toList, v.oneCell' = true := by
  intro v hv
  simp [Builtin.zeroCells, Value.cells] at hv
  obtain ⟨k, _, rfl⟩ := hv
  have h3 : k % 4 = 0 ∨ k % 4 = 1 ∨ k % 4 = 2 ∨ k % 4 = 3 := by omega
  rcases h3 with h | h | h | h <;> (rw [h]; rfl)
theorem run_clear_vars (w : World) (ty : TypeId) (g o n c : Nat) (hn : 0 < n) (hc : ∀ j, j < n * 4 → (w.cell? ⟨g, o + j, none⟩).isSome = true) (hf : ∀ j, j < n * 4 → w.frozen? ⟨g, o + j, none⟩ = false) :
    (Builtin.clear_ #[22] ty #[.slice (some ⟨g, o, none⟩) n c]).run Tryd.prog w = .ok (.tuple #[]) (w.setCells g o (Builtin.zeroCells (Value.agg #[(.string ⟨#[]⟩), (.string ⟨#[]⟩), (.bool false), (.slice none 0 0)]).cells n).toList) := by
  have hst := run_storeCells_cells (P := Tryd.prog) g o (Builtin.zeroCells (Value.agg #[(.string ⟨#[]⟩), (.string ⟨#[]⟩), (.bool false), (.slice none 0 0)]).cells n).toList 0 w (by rw [zeroCellsV_len]; simpa using hc) (by rw [zeroCellsV_len]; simpa using hf) (zeroCellsV_one n)
  simp only [Nat.add_zero] at hst
  obtain ⟨m, rfl⟩ : ∃ m, n = m + 1 := ⟨n - 1, by omega⟩
  have hz := zeroV
  simp [Builtin.clear_, run_underlying Tryd.underlying22, hz, hst]
set_option maxHeartbeats 8000000 in
set_option maxRecDepth 100000 in
theorem deleteE_calls (fn : Nat) (lb : Array Value) (eg : ∀ args w, (callFunc fn args).run Tryd.prog w = .ok (.enter fn args) w) (p : VE → Bool) (base g c : Nat) (t : List VE) (w : World)
    (hv : OwnE w base (.slice (some ⟨g, 0, none⟩) t.length c) t) (hl : t.length ≤ 1099511627776) (hb : base ≤ w.heap.size) (hg : Gives fn lb p base w t) :
    Calls Tryd.prog 35 #[.slice (some ⟨g, 0, none⟩) t.length c, .func (.func fn) #[] lb] w fun e w' => e = .returned (.slice (some ⟨g, 0, none⟩) (t.filter fun n => !p n).length c) ∧ OwnE w' base (.slice (some ⟨g, 0, none⟩) (t.filter fun n => !p n).length c) (t.filter fun n => !p n) ∧ Below base w w' ∧ ∀ k, k < w.heap.size → k ≠ g → w'.heap[k]? = w.heap[k]? := by
  have HI := Lib.hid (indexE_calls fn lb eg p base g c t w hv hl hb hg)
  have hc : t.length ≤ c := (hv.at rfl).2.2.1
  have HV := Lib.hid hv
  clear hv
  go_enter Tryd.func35, Tryd.ntmps35
  go_wp2_with fail
  refine HI.out.mono ?_
  rintro e w1 ⟨⟨rfl, hall⟩ | ⟨i0, X0, rfl, hi0, hno, hyes⟩, hb1⟩
  · have hfil : (t.filter fun n => !p n) = t := List.filter_eq_self.2 (fun n hn => List.all_eq_true.1 hall n hn)
    have HF := Lib.hid hfil
    have HB1 := Lib.hid hb1
    clear hfil hb1 hall
    go_wp2_with fail
    go_ret
    rw [HF.out]
    exact ⟨rfl, HV.out.same (fun k _ hk => HB1.out.block k hk), HB1.out.mono hb, fun k hk _ => HB1.out.block k hk⟩
  · have hlt0 := (List.getElem?_eq_some_iff.1 hi0).1
    have HNO := Lib.hid hno
    have HYES := Lib.hid hyes
    have HI0 := Lib.hid hi0
    have HB1 := Lib.hid hb1
    have hne : ((i0 : Int) == -1) = false := beq_eq_false_iff_ne.2 (by omega)
    clear hno hyes hb1 hi0
    go_wp2_with fail
    go_loopw [5, 6] (fun vi vj wr => ∃ (i j : Nat) (L : List VE), vi = .int .i64 (i : Int) ∧ vj = .int .i64 (j : Int) ∧ i < j ∧ j ≤ t.length ∧ L.length = t.length ∧ L.take i = (t.take j).filter (fun n => !p n) ∧ L.drop j = t.drop j ∧
        OwnE wr base (.slice (some ⟨g, 0, none⟩) t.length c) L ∧ Below base w wr ∧ ∀ k, k < w.heap.size → k ≠ g → wr.heap[k]? = w.heap[k]?)
      (fun _ vj _ => t.length - (intOf vj).toNat)
    case atStart =>
      have e1 : (t.take (i0 + 1)).filter (fun n => !p n) = t.take i0 := by
        rw [List.take_add_one, List.filter_append, List.filter_eq_self.2 (fun n hn => List.all_eq_true.1 HNO.out n hn), HI0.out]
        simp [HYES.out]
      exact ⟨i0, i0 + 1, t, rfl, by simp, by omega, by omega, rfl, e1.symm, rfl, HV.out.same (fun k _ hk => HB1.out.block k hk), HB1.out.mono hb, fun k hk _ => HB1.out.block k hk⟩
    case round =>
      obtain ⟨i, j, L, rfl, rfl, hij, hj, hL, hti, hdj, hO, hB, hkeep⟩ := hrel
      obtain ⟨hglt, hbg, hnc, hcm, cur, hcur, hcs, htk⟩ := hO.at hL
      have HTI := Lib.hid hti
      have HDJ := Lib.hid hdj
      have HO := Lib.hid hO
      have HB := Lib.hid hB
      have HKP := Lib.hid hkeep
      clear hti hdj hkeep
      by_cases hlt : j < t.length
      · have hd : decide ((j : Int) < (t.length : Int)) = true := decide_eq_true (by omega)
        have hgt := List.getElem?_eq_getElem hlt
        have hLj : L[j]? = some t[j] := by
          have h := congrArg (fun l : List VE => l[0]?) HDJ.out
          simp only [List.getElem?_drop, Nat.add_zero] at h
          rw [h, hgt]
        have hmem := List.getElem_mem hlt
        obtain ⟨hx0, hx1, hx2, hx3⟩ := hO.cells hL j _ hLj
        clear hO hB
        generalize hX : t[j] = X at *
        have HC := Lib.hid (hg X hmem (wr.alloc (.cells #[.string X.p.f0, .string X.p.f1, .bool X.p.f2, .slice X.A X.p.f3.length X.c] 53)) (HB.out.alloc (Nat.le_trans hb HB.out.size) _))
        have hgg := HB.out.size
        go_wp2_with fail
        refine HC.out.mono ?_
        rintro e w2 ⟨rfl, hb2⟩
        have hbox : w2.heap[wr.heap.size]? = some (.cells #[.string X.p.f0, .string X.p.f1, .bool X.p.f2, .slice X.A X.p.f3.length X.c] 53 (0, 0)) := (hb2.block _ (by simp)).trans (heap_alloc_new wr _)
        have hc0 : w2.cell? ⟨wr.heap.size, 0, none⟩ = some (.string X.p.f0) := by simp [World.cell?, hbox]
        have hc1 : w2.cell? ⟨wr.heap.size, 1, none⟩ = some (.string X.p.f1) := by simp [World.cell?, hbox]
        have hc2 : w2.cell? ⟨wr.heap.size, 2, none⟩ = some (.bool X.p.f2) := by simp [World.cell?, hbox]
        have hc3 : w2.cell? ⟨wr.heap.size, 3, none⟩ = some (.slice X.A X.p.f3.length X.c) := by simp [World.cell?, hbox]
        have hrow : ∀ k, k < wr.heap.size → w2.heap[k]? = wr.heap[k]? := fun k hk => (hb2.block k (by simp; omega)).trans (Below.heap_alloc wr _ k hk)
        have hwsz : w.heap.size ≤ wr.heap.size := HB.out.size
        have HO2 := Lib.hid (HO.out.same (w' := w2) (fun k _ hk => hrow k hk))
        have hcur2 : w2.heap[g]? = some (.cells cur 53 (0, 0)) := (hrow g hglt).trans hcur
        have HB2 := Lib.hid ((HB.out.alloc (Nat.le_trans hb HB.out.size) (.cells #[.string X.p.f0, .string X.p.f1, .bool X.p.f2, .slice X.A X.p.f3.length X.c] 53)).trans (hb2.mono (by simp; omega)))
        have HKP2 := Lib.hid (fun k (hk : k < w.heap.size) (hkg : k ≠ g) => (hrow k (by omega)).trans (HKP.out k hk hkg))
        clear hb2 hrow
        cases hp : p X
        · have hil : i < L.length := by omega
          obtain ⟨hy0, hy1, hy2, hy3⟩ := HO2.out.cells hL i _ (List.getElem?_eq_getElem hil)
          have hf0 := frozen_rowV hcur2 (i * 4)
          have hf1 := frozen_rowV hcur2 (i * 4 + 1)
          have hf2 := frozen_rowV hcur2 (i * 4 + 2)
          have hf3 := frozen_rowV hcur2 (i * 4 + 3)
          have hi2 : (i : Int) ≤ (t.length : Int) := by omega
          have hi3 : (i : Int) < (t.length : Int) := by omega
          go_wp2_with fail
          go_roundw
          case rel =>
            refine ⟨i + 1, j + 1, L.set i X, by simp, by simp, by omega, by omega, by rw [List.length_set, hL], ?_, ?_, HO2.out.put hL (by omega), setCells_below g hbg (cellsV X) (i * 4) w2 HB2.out, fun k hk hkg => (setCells_other g (cellsV X) (i * 4) w2 k hkg).trans (HKP2.out k hk hkg)⟩
            · rw [take_set_succV (by omega), HTI.out, List.take_add_one, hgt, List.filter_append]
              simp [hp]
            · rw [List.drop_set_of_lt (by omega), ← List.drop_drop, HDJ.out, List.drop_drop]
          case measure => simp [intOf]; omega
        · go_wp2_with fail
          go_roundw
          case rel =>
            refine ⟨i, j + 1, L, rfl, by simp, by omega, by omega, hL, ?_, ?_, HO2.out, HB2.out, HKP2.out⟩
            · rw [HTI.out, List.take_add_one, hgt, List.filter_append]
              simp [hp]
            · rw [← List.drop_drop, HDJ.out, List.drop_drop]
          case measure => simp [intOf]; omega
      · obtain rfl : j = t.length := by omega
        have hd : decide ((t.length : Int) < (t.length : Int)) = false := decide_eq_false (by omega)
        clear hO hB
        have hcsz : cur.toList.length = c * 4 := by simpa using hcs
        have hcl : ∀ ty, (Builtin.clear_ #[22] ty #[.slice (some ⟨g, i * 4, none⟩) (t.length - i) (c - i)]).run Tryd.prog wr = .ok (.tuple #[]) (wr.setCells g (i * 4) (Builtin.zeroCells (Value.agg #[(.string ⟨#[]⟩), (.string ⟨#[]⟩), (.bool false), (.slice none 0 0)]).cells (t.length - i)).toList) := fun ty =>
          run_clear_vars wr ty g (i * 4) (t.length - i) (c - i) (by omega) (fun k hk => by simp [World.cell?, hcur, hcs]; omega) (fun k hk => frozen_rowV hcur _)
        obtain ⟨cur', k1, k2, k3⟩ := setCells_block (Builtin.zeroCells (Value.agg #[(.string ⟨#[]⟩), (.string ⟨#[]⟩), (.bool false), (.slice none 0 0)]).cells (t.length - i)).toList hcur (o := i * 4) (by rw [zeroCellsV_len, hcs]; omega)
        have HBZ := Lib.hid (setCells_below g hbg (Builtin.zeroCells (Value.agg #[(.string ⟨#[]⟩), (.string ⟨#[]⟩), (.bool false), (.slice none 0 0)]).cells (t.length - i)).toList (i * 4) wr HB.out)
        have HKZ := Lib.hid (fun k (hk : k < w.heap.size) (hkg : k ≠ g) => (setCells_other g (Builtin.zeroCells (Value.agg #[(.string ⟨#[]⟩), (.string ⟨#[]⟩), (.bool false), (.slice none 0 0)]).cells (t.length - i)).toList (i * 4) wr k hkg).trans (HKP.out k hk hkg))
        generalize (Builtin.zeroCells (Value.agg #[(.string ⟨#[]⟩), (.string ⟨#[]⟩), (.bool false), (.slice none 0 0)]).cells (t.length - i)).toList = zs at *
        have hic : (i : Int) ≤ (c : Int) := by omega
        have hfl : t.filter (fun n => !p n) = L.take i := by rw [HTI.out, List.take_length]
        have HFL := Lib.hid hfl
        clear hfl
        go_wp2_with fail
        go_ret
        have hlen : (L.take i).length = i := by rw [List.length_take]; omega
        rw [HFL.out, hlen]
        refine ⟨rfl, ?_, HBZ.out, HKZ.out⟩
        unfold OwnE
        rw [hlen]
        refine ⟨by rw [cellsE_len, hlen], .inr ⟨g, c, cur', rfl, hbg, k1, by omega, hcm, by rw [k2, hcs], ?_⟩⟩
        rw [k3, List.append_assoc, List.take_left' (by rw [List.length_take]; omega), ← cellsE_take, ← htk, List.take_take]
        congr 1
        omega
end Go.Proofs.YteoimkgjngdkdaaDoor.Ext

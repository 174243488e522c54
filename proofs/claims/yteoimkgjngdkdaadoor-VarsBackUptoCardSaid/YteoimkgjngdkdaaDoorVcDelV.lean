/- Proved: slices.DeleteFunc of variables in a slice of the call's own, at whatever predicate that a function value gives: those of which it does not hold; the blocks besides the row stay. Condition: at most 2 to the 40 variables. -/
import Derived.Test.YteoimkgjngdkdaaDoorVcRowV
import Derived.Lib.SliceRun
import Derived.Laws.IdiomCopy
set_option linter.unusedVariables false
set_option linter.unusedSimpArgs false
namespace Go.Proofs.YteoimkgjngdkdaaDoor.Ext
open Go.RowKit Go.Shelf Go.Proofs.YteoimkgjngdkdaaDoorW.PrintWords Go.Proofs.YteoimkgjngdkdaaDoor.P
/-- A variable as it lies: its list's slice told. -/
structure VE where
  p : S53
  A : Option Addr
  c : Nat
def cellsV (e : VE) : List Value := [.string e.p.f0, .string e.p.f1, .bool e.p.f2, .slice e.A e.p.f3.length e.c]
def cellsE : List VE → List Value
  | [] => []
  | e :: t => .string e.p.f0 :: .string e.p.f1 :: .bool e.p.f2 :: .slice e.A e.p.f3.length e.c :: cellsE t
theorem cellsE_len : ∀ t, (cellsE t).length = t.length * 4
  | [] => rfl
  | n :: t => by simp only [cellsE, List.length_cons, cellsE_len t]; omega
theorem cellsE_append : ∀ s t, cellsE (s ++ t) = cellsE s ++ cellsE t
  | [], t => rfl
  | n :: s, t => by simp only [List.cons_append, cellsE, cellsE_append s t]
theorem cellsE_drop : ∀ t i, (cellsE t).drop (i * 4) = cellsE (t.drop i)
  | t, 0 => by simp
  | [], i + 1 => by simp [cellsE]
  | n :: t, i + 1 => by
    rw [show (i + 1) * 4 = i * 4 + 1 + 1 + 1 + 1 by omega]
    simp only [cellsE, List.drop_succ_cons]
    exact cellsE_drop t i
theorem cellsE_take : ∀ t i, (cellsE t).take (i * 4) = cellsE (t.take i)
  | t, 0 => by simp [cellsE]
  | [], i + 1 => by simp [cellsE]
  | n :: t, i + 1 => by
    rw [show (i + 1) * 4 = i * 4 + 1 + 1 + 1 + 1 by omega]
    simp only [cellsE, List.take_succ_cons]
    rw [cellsE_take t i]
theorem cellsE_at (t : List VE) (i : Nat) (e : VE) (h : t[i]? = some e) (k : Nat) (hk : k < 4) : (cellsE t)[i * 4 + k]? = (cellsV e)[k]? := by
  obtain ⟨h1, h2⟩ := List.getElem?_eq_some_iff.1 h
  have hd := cellsE_drop t i
  rw [List.drop_eq_getElem_cons h1, h2, cellsE] at hd
  rw [← List.getElem?_drop, hd]
  unfold cellsV
  match k, hk with
  | 0, _ => rfl
  | 1, _ => rfl
  | 2, _ => rfl
  | 3, _ => rfl
/-- A store into a row of cells. -/
theorem setCell_block {w : World} {g e o : Nat} {cur : Array Value} {fr : Nat × Nat} (h : w.heap[g]? = some (.cells cur e fr)) (ho : o < cur.size) (v : Value) :
    ∃ cur', (w.setCell ⟨g, o, none⟩ v).heap[g]? = some (.cells cur' e fr) ∧ cur'.size = cur.size ∧ cur'.toList = cur.toList.take o ++ v :: cur.toList.drop (o + 1) := by
  obtain ⟨hlt, hk⟩ := Array.getElem?_eq_some_iff.1 h
  refine ⟨cur.setIfInBounds o v, ?_, by simp, ?_⟩
  · show (w.heap.modify g _)[g]? = _
    rw [Array.getElem?_eq_getElem (by rw [Array.size_modify]; exact hlt), Array.getElem_modify_self, hk]
    rfl
  · rw [Array.toList_setIfInBounds, List.set_eq_take_append_cons_drop, if_pos (by simpa using ho)]
theorem setCells_block : ∀ (vs : List Value) {w : World} {g e o : Nat} {cur : Array Value} {fr : Nat × Nat}, w.heap[g]? = some (.cells cur e fr) → o + vs.length ≤ cur.size →
    ∃ cur', (w.setCells g o vs).heap[g]? = some (.cells cur' e fr) ∧ cur'.size = cur.size ∧ cur'.toList = cur.toList.take o ++ vs ++ cur.toList.drop (o + vs.length)
  | [], w, g, e, o, cur, fr, h, ho => ⟨cur, h, rfl, by simp⟩
  | v :: vs, w, g, e, o, cur, fr, h, ho => by
    simp only [List.length_cons] at ho
    obtain ⟨c1, h1, h2, h3⟩ := setCell_block h (o := o) (by omega) v
    obtain ⟨c2, g1, g2, g3⟩ := setCells_block vs h1 (o := o + 1) (by omega)
    refine ⟨c2, g1, by omega, ?_⟩
    have hlen : (cur.toList.take o).length = o := by rw [List.length_take]; simp; omega
    rw [g3, h3]
    have e1 : (cur.toList.take o ++ v :: cur.toList.drop (o + 1)).take (o + 1) = cur.toList.take o ++ [v] := by
      rw [show cur.toList.take o ++ v :: cur.toList.drop (o + 1) = (cur.toList.take o ++ [v]) ++ cur.toList.drop (o + 1) by simp]
      rw [List.take_left' (by simp; omega)]
    have e2 : (cur.toList.take o ++ v :: cur.toList.drop (o + 1)).drop (o + 1 + vs.length) = cur.toList.drop (o + (v :: vs).length) := by
      rw [show cur.toList.take o ++ v :: cur.toList.drop (o + 1) = (cur.toList.take o ++ [v]) ++ cur.toList.drop (o + 1) by simp]
      rw [List.drop_append, List.drop_eq_nil_of_le (by simp; omega), List.nil_append, List.drop_drop]
      congr 1
      simp
      omega
    rw [e1, e2]
    simp
theorem setCells_other (g : Nat) : ∀ (vs : List Value) (o : Nat) (w : World) (k : Nat), k ≠ g → (w.setCells g o vs).heap[k]? = w.heap[k]?
  | [], _, _, _, _ => rfl
  | v :: vs, o, w, k, hk => (setCells_other g vs (o + 1) _ k hk).trans (Below.heap_setCell w ⟨g, o, none⟩ v k hk)
theorem setCells_below (g : Nat) {B : Nat} {a : World} (hB : B ≤ g) : ∀ (vs : List Value) (o : Nat) (w : World), Below B a w → Below B a (w.setCells g o vs)
  | [], _, _, h => h
  | v :: vs, o, w, h => setCells_below g hB vs (o + 1) _ (h.setCell (p := ⟨g, o, none⟩) hB v)
theorem splice {α : Type} (A X : List α) (o N : Nat) (h1 : o + X.length ≤ N) (h2 : N ≤ A.length) : (A.take o ++ X ++ A.drop (o + X.length)).take N = (A.take N).take o ++ X ++ (A.take N).drop (o + X.length) := by
  have hB : (A.take N).length = N := by rw [List.length_take]; omega
  have e1 : A.take o = (A.take N).take o := by rw [List.take_take]; congr 1; omega
  have e2 : A.drop (o + X.length) = (A.take N).drop (o + X.length) ++ A.drop N := by
    have h := congrArg (List.drop (o + X.length)) (List.take_append_drop N A)
    rw [List.drop_append_of_le_length (by omega)] at h
    exact h.symm
  rw [e1, e2, ← List.append_assoc, List.take_left']
  rw [List.length_append, List.length_append, List.length_take, List.length_drop, hB]
  omega
/-- A slice of the call's own that holds such variables. -/
def OwnE (W : World) (base : Nat) (v : Value) (t : List VE) : Prop := W.ownsRow base 53 4 v t.length (cellsE t)
theorem OwnE.put {w : World} {base g n cap : Nat} {L : List VE} {i : Nat} {x : VE} (h : OwnE w base (.slice (some ⟨g, 0, none⟩) n cap) L) (hn : L.length = n) (hi : i < n) :
    OwnE (w.setCells g (i * 4) (cellsV x)) base (.slice (some ⟨g, 0, none⟩) n cap) (L.set i x) := by
  unfold OwnE at h ⊢
  obtain ⟨h1, h2⟩ := h
  refine ⟨by rw [cellsE_len], ?_⟩
  rcases h2 with ⟨h2, _⟩ | ⟨g', cap', cur, h2, hb, hh, h5, h6, h7, h8⟩
  · cases h2
  · cases h2
    obtain ⟨c', k1, k2, k3⟩ := setCells_block (cellsV x) hh (o := i * 4) (by rw [h7]; show i * 4 + 4 ≤ cap * 4; omega)
    refine .inr ⟨g, cap, c', by rw [List.length_set, hn], hb, k1, by rw [List.length_set]; exact h5, h6, by rw [k2, h7], ?_⟩
    rw [List.length_set, hn, k3]
    rw [hn] at h8
    have e1 : cellsE (L.set i x) = (cellsE L).take (i * 4) ++ cellsV x ++ (cellsE L).drop (i * 4 + 4) := by
      rw [List.set_eq_take_append_cons_drop, if_pos (by omega), cellsE_append, cellsE, cellsE_take, show i * 4 + 4 = (i + 1) * 4 by omega, cellsE_drop]
      simp [cellsV]
    rw [e1, ← h8]
    have hcur : cur.toList.length = cap * 4 := by simpa using h7
    exact splice cur.toList (cellsV x) (i * 4) (L.length * 4) (by show i * 4 + 4 ≤ _; omega) (by omega)
theorem OwnE.same {w w' : World} {base : Nat} {v : Value} {L : List VE} (h : OwnE w base v L) (hm : ∀ k, base ≤ k → k < w.heap.size → w'.heap[k]? = w.heap[k]?) : OwnE w' base v L :=
  own_move h (fun k hk => hm k (own_base h k hk) (own_lt h k hk))
theorem OwnE.at {w : World} {base g n cap : Nat} {L : List VE} (h : OwnE w base (.slice (some ⟨g, 0, none⟩) n cap) L) (hn : L.length = n) : g < w.heap.size ∧ base ≤ g ∧ n ≤ cap ∧ cap ≤ maxLen ∧ ∃ cur, w.heap[g]? = some (.cells cur 53 (0, 0)) ∧ cur.size = cap * 4 ∧ cur.toList.take (n * 4) = cellsE L := by
  unfold OwnE at h
  rcases h.2 with ⟨h2, _⟩ | ⟨g', cap', cur, h2, hb, hh, h5, h6, h7, h8⟩
  · cases h2
  · cases h2
    exact ⟨(Array.getElem?_eq_some_iff.1 hh).1, hb, by omega, h6, cur, hh, h7, by rw [← hn]; exact h8⟩
theorem OwnE.cells {w : World} {base g n cap : Nat} {L : List VE} (h : OwnE w base (.slice (some ⟨g, 0, none⟩) n cap) L) (hn : L.length = n) (i : Nat) (e : VE) (hi : L[i]? = some e) :
    w.cell? ⟨g, i * 4, none⟩ = some (.string e.p.f0) ∧ w.cell? ⟨g, i * 4 + 1, none⟩ = some (.string e.p.f1) ∧ w.cell? ⟨g, i * 4 + 2, none⟩ = some (.bool e.p.f2) ∧ w.cell? ⟨g, i * 4 + 3, none⟩ = some (.slice e.A e.p.f3.length e.c) := by
  obtain ⟨h1, _⟩ := List.getElem?_eq_some_iff.1 hi
  subst hn
  unfold OwnE at h
  have g4 : ∀ k, k < 4 → w.cell? ⟨g, i * 4 + k, none⟩ = (cellsV e)[k]? := fun k hk => by
    rw [h.cellAt (i * 4 + k) (by omega), cellsE_at L i e hi k hk]
  exact ⟨g4 0 (by omega), g4 1 (by omega), g4 2 (by omega), g4 3 (by omega)⟩
/-- What a function value answers of each variable, in every world that keeps what lay below base. -/
def Gives (fn : Nat) (lb : Array Value) (p : VE → Bool) (base : Nat) (w : World) (t : List VE) : Prop :=
  ∀ n ∈ t, ∀ W : World, Below base w W → Calls Tryd.prog fn (#[.agg #[.string n.p.f0, .string n.p.f1, .bool n.p.f2, .slice n.A n.p.f3.length n.c]] ++ lb) W fun e W' => e = .returned (.bool (p n)) ∧ Below W.heap.size W W'
set_option maxHeartbeats 4000000 in
set_option maxRecDepth 100000 in
theorem indexE_calls (fn : Nat) (lb : Array Value) (eg : ∀ args w, (callFunc fn args).run Tryd.prog w = .ok (.enter fn args) w) (p : VE → Bool) (base g c : Nat) (t : List VE) (w : World)
    (hv : OwnE w base (.slice (some ⟨g, 0, none⟩) t.length c) t) (hl : t.length ≤ 1099511627776) (hb : base ≤ w.heap.size) (hg : Gives fn lb p base w t) :
    Calls Tryd.prog 58 #[.slice (some ⟨g, 0, none⟩) t.length c, .func (.func fn) #[] lb] w fun e w' =>
      ((e = .returned (.int .i64 (-1)) ∧ t.all (fun n => !p n) = true) ∨ ∃ (i : Nat) (x : VE), e = .returned (.int .i64 i) ∧ t[i]? = some x ∧ (t.take i).all (fun n => !p n) = true ∧ p x = true) ∧ Below w.heap.size w w' := by
  have hglt := (hv.at rfl).1
  have HV := Lib.hid hv
  clear hv
  go_enter Tryd.func58, Tryd.ntmps58
  go_wp2
  go_loopw [8] (fun v wr => ∃ (i : Nat), v = .int .i64 (i : Int) ∧ i ≤ t.length ∧ (t.take i).all (fun n => !p n) = true ∧ Below w.heap.size w wr)
    (fun v _ => t.length - (intOf v).toNat)
  case atStart => exact ⟨0, rfl, Nat.zero_le _, rfl, Below.refl _ _⟩
  case round =>
    obtain ⟨i, rfl, hi, hno, hB⟩ := hrel
    have HB := Lib.hid hB
    clear hB
    by_cases hlt : i < t.length
    · have hd : decide ((i : Int) < (t.length : Int)) = true := decide_eq_true (by omega)
      have hgt := List.getElem?_eq_getElem hlt
      have hmem := List.getElem_mem hlt
      have HC := Lib.hid (hg _ hmem wr (HB.out.mono hb))
      have hv2 : OwnE wr base (.slice (some ⟨g, 0, none⟩) t.length c) t := HV.out.same (fun k _ hk => HB.out.block k hk)
      obtain ⟨hx0, hx1, hx2, hx3⟩ := hv2.cells rfl i _ hgt
      have hstep : (t.take (i + 1)).all (fun n => !p n) = !p t[i] := by
        rw [List.take_add_one, hgt, List.all_append, hno]
        simp
      have HST := Lib.hid hstep
      have HNO := Lib.hid hno
      clear hno hstep hg hv2
      generalize t[i] = X at *
      go_wp2_with fail
      refine HC.out.mono ?_
      rintro e w1 ⟨rfl, hb2⟩
      have HB2 := Lib.hid (HB.out.trans (hb2.mono HB.out.size))
      clear hb2
      cases hn : p X
      · go_wp2_with fail
        go_roundw
        case rel => exact ⟨i + 1, by simp, by omega, by rw [HST.out, hn]; rfl, HB2.out⟩
        case measure => simp [intOf]; omega
      · go_wp2_with fail
        go_ret
        exact ⟨.inr ⟨i, X, rfl, hgt, HNO.out, hn⟩, HB2.out⟩
    · obtain rfl : i = t.length := by omega
      have hd : decide ((t.length : Int) < (t.length : Int)) = false := decide_eq_false (by omega)
      rw [List.take_length] at hno
      have HNO := Lib.hid hno
      clear hno
      go_wp2_with fail
      go_ret
      exact ⟨.inl ⟨rfl, HNO.out⟩, HB.out⟩
end Go.Proofs.YteoimkgjngdkdaaDoor.Ext

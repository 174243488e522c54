/- Proved: slices.Insert of one node, in a slice of the call's own: ahead of the place, the node, the others. Condition: at most 2 to the 40 nodes. -/
import Derived.Test.YtdfddiehiiaepaaGreatDoorVtPut0
import Derived.Test.YtdfddiehiiaepaaGreatDoorVtDelete
import Derived.Shelf.Spec.SlicesInsert
import Derived.Lib.AppendZerosOnto
import Derived.Lib.Overlaps
set_option linter.unusedVariables false
set_option linter.unusedSimpArgs false
namespace Go.Proofs.YtdfddiehiiaepaaGreatDoor.Ext
open Go.RowKit Go.Shelf Go.Proofs.YtdfddiehiiaepaaGreatDoorW.PrintWords Go.Proofs.YtdfddiehiiaepaaGreatDoor.P
/-- 'copy' of elements of several cells: all is read before anything is written. -/
theorem copy_cellsN {P : Program} (w : World) (dT sT ty elem : TypeId) (sz b o dLen dCap : Nat) (a : Addr) (sLen sCap k : Nat) (cs : List Value)
    (hu : P.underlying dT = some (.slice elem)) (hs : (P.info? elem).map (·.size) = some sz) (hk : Nat.min sLen dLen = k) (hn : cs.length = k * sz)
    (hsrc : ∀ j v, cs[j]? = some v → w.cell? (a.add j) = some v) (hc : ∀ j, j < cs.length → (w.cell? ⟨b, o + j, none⟩).isSome = true) (hf : ∀ j, j < cs.length → w.frozen? ⟨b, o + j, none⟩ = false) (h1 : ∀ v ∈ cs, v.oneCell' = true) :
    (Builtin.copy_ #[dT, sT] ty #[.slice (some ⟨b, o, none⟩) dLen dCap, .slice (some a) sLen sCap]).run P w = .ok (goInt k) (w.setCells b o cs) := by
  have hl := run_loadCells_list (P := P) w a cs hsrc
  have hst := run_storeCells_cells (P := P) b o cs 0 w (by simpa using hc) (by simpa using hf) h1
  cases hq : P.info? elem with
  | none => simp [hq] at hs
  | some i =>
    have hi : i.size = sz := by simpa [hq] using hs
    simp [Builtin.copy_, run_underlying hu, Builtin.lenOf, Builtin.firstCells, sizeOf, typeInfo, hq, hi, hk, ← hn, hl, hst]
theorem cell_row {w : World} {g : Nat} {cur : Array Value} {t : TypeId} {fr : Nat × Nat} (h : w.heap[g]? = some (.cells cur t fr)) (o : Nat) : w.cell? ⟨g, o, none⟩ = cur[o]? := by
  simp [World.cell?, h]
theorem froz_row {w : World} {g : Nat} {cur : Array Value} {t : TypeId} (h : w.heap[g]? = some (.cells cur t (0, 0))) (o : Nat) : w.frozen? ⟨g, o, none⟩ = false := by
  simp [World.frozen?, h]
theorem cellsT_at7 {cur : Array Value} {n : Nat} {t : List S73} (h : cur.toList.take (n * 3) = cellsT t) {j : Nat} {v : Value} (hj : (cellsT t)[j]? = some v) : cur[j]? = some v := by
  rw [← h, List.getElem?_take] at hj
  split at hj
  · simpa using hj
  · cases hj
/-- Where a row has room: the later nodes moved on, the node put. -/
theorem own_shift {w : World} {base g n c i : Nat} {cur : Array Value} {t : List S73} (x : S73) (hb : base ≤ g) (hh : w.heap[g]? = some (.cells cur 73 (0, 0))) (hsz : cur.size = c * 3) (ht : cur.toList.take (n * 3) = cellsT t)
    (hn : t.length = n) (hi : i < n) (hr : n + 1 ≤ c) (hm : c ≤ maxLen) :
    OwnT ((w.setCells g ((i + 1) * 3) (cellsT (t.drop i))).setCells g (i * 3) (cellsN x)) base (.slice (some ⟨g, 0, none⟩) (n + 1) c) (t.take i ++ x :: t.drop i) := by
  have hl : (t.take i ++ x :: t.drop i).length = n + 1 := by simp; omega
  have hd : (cellsT (t.drop i)).length = (n - i) * 3 := by rw [cellsT_len, List.length_drop, hn]
  obtain ⟨c1, h1, h2, h3⟩ := setCells_block (cellsT (t.drop i)) hh (o := (i + 1) * 3) (by omega)
  obtain ⟨c2, g1, g2, g3⟩ := setCells_block (cellsN x) h1 (o := i * 3) (by show i * 3 + 3 ≤ _; omega)
  unfold OwnT
  refine ⟨by rw [cellsT_len], .inr ⟨g, c, c2, by rw [hl], hb, g1, by omega, hm, by omega, ?_⟩⟩
  have hcl : cur.toList.length = c * 3 := by simpa using hsz
  have e1 : c1.toList.take (i * 3) = cellsT (t.take i) := by
    rw [h3, List.append_assoc, List.take_append_of_le_length (by rw [List.length_take]; omega), List.take_take, ← cellsT_take, ← ht, List.take_take]
    congr 1
    omega
  have e2 : c1.toList.drop (i * 3 + (cellsN x).length) = cellsT (t.drop i) ++ cur.toList.drop ((i + 1) * 3 + (cellsT (t.drop i)).length) := by
    rw [h3, List.append_assoc, List.drop_left' (by rw [List.length_take]; show min _ _ = i * 3 + 3; omega)]
  rw [g3, e1, e2, hl, List.append_assoc, ← List.append_assoc (cellsN x), ← List.append_assoc, List.take_left']
  · rw [cellsT_append]
    simp [cellsT, cellsN]
  · rw [List.length_append, List.length_append, hd, cellsT_len, List.length_take]
    show _ + (3 + _) = _
    omega
/-- Where a new row is made. -/
theorem own_grow {w : World} {base g n c i : Nat} {cur : Array Value} {t : List S73} (x : S73) (hb : base ≤ g) (hh : w.heap[g]? = some (.cells cur 73 (0, 0))) (hsz : cur.size = c * 3) (ht : cur.toList.take (i * 3) = cellsT (t.take i))
    (hn : t.length = n) (hi : i < n) (hr : n + 1 ≤ c) (hm : c ≤ maxLen) :
    OwnT ((w.setCells g (i * 3) (cellsN x)).setCells g ((i + 1) * 3) (cellsT (t.drop i))) base (.slice (some ⟨g, 0, none⟩) (n + 1) c) (t.take i ++ x :: t.drop i) := by
  have hl : (t.take i ++ x :: t.drop i).length = n + 1 := by simp; omega
  have hd : (cellsT (t.drop i)).length = (n - i) * 3 := by rw [cellsT_len, List.length_drop, hn]
  obtain ⟨c1, h1, h2, h3⟩ := setCells_block (cellsN x) hh (o := i * 3) (by show i * 3 + 3 ≤ _; omega)
  obtain ⟨c2, g1, g2, g3⟩ := setCells_block (cellsT (t.drop i)) h1 (o := (i + 1) * 3) (by omega)
  unfold OwnT
  refine ⟨by rw [cellsT_len], .inr ⟨g, c, c2, by rw [hl], hb, g1, by omega, hm, by omega, ?_⟩⟩
  have hcl : cur.toList.length = c * 3 := by simpa using hsz
  have e1 : c1.toList.take ((i + 1) * 3) = cellsT (t.take i) ++ cellsN x := by
    rw [h3, ht, List.take_left']
    rw [List.length_append, cellsT_len, List.length_take]
    show _ + 3 = _
    omega
  rw [g3, e1, hl, List.take_left']
  · rw [cellsT_append]
    simp [cellsT, cellsN]
  · rw [List.length_append, List.length_append, hd, cellsT_len, List.length_take]
    show _ + 3 + _ = _
    omega
theorem zero_len (n : Nat) : (Builtin.zeroCells (Value.agg #[(.string ⟨#[]⟩), (.bool false), (.string ⟨#[]⟩)]).cells n).size = n * 3 := by
  have : (Value.agg #[(.string ⟨#[]⟩), (.bool false), (.string ⟨#[]⟩)]).cells.size = 3 := by decide +kernel
  simp [Builtin.zeroCells, this]
set_option maxHeartbeats 4000000 in
set_option maxRecDepth 100000 in
/-- slices.Insert in the middle, where there is room. -/
theorem insert_shift (g n c i : Nat) (base : Nat) (cur : Array Value) (t : List S73) (x : S73) (vb : Nat) (w : World) (hb : base ≤ g) (hh : w.heap[g]? = some (.cells cur 73 (0, 0))) (hsz : cur.size = c * 3) (ht : cur.toList.take (n * 3) = cellsT t)
    (hn : t.length = n) (hi : i < n) (hr : n + 1 ≤ c) (hm : c ≤ maxLen) (hlen : n ≤ 1099511627776) (hv : w.heap[vb]? = some (.cells (cellsN x).toArray 73 (0, 0))) (hne : vb ≠ g) :
    Calls Tryz.prog 91 #[.slice (some ⟨g, 0, none⟩) n c, .int .i64 i, .slice (some ⟨vb, 0, none⟩) 1 1] w fun e w' =>
      e = .returned (.slice (some ⟨g, 0, none⟩) (n + 1) c) ∧ w' = (w.drew.setCells g ((i + 1) * 3) (cellsT (t.drop i))).setCells g (i * 3) (cellsN x) := by
  obtain ⟨i0, hi0, hz0, hz1, hz2⟩ := info_parts infoN
  have u23 : ∀ w, Sem.run Tryz.prog (underlying 23) w = .ok (TypeDesc.slice 73) w := run_underlying Tryz.underlying23
  have hs3 : (Tryz.prog.info? 73).map (·.size) = some 3 := by rw [hi0]; simp [hz1]
  have hmx : maxLen ≤ 9223372036854775807 := by decide
  have hdl : (cellsT (t.drop i)).length = (n - i) * 3 := by rw [cellsT_len, List.length_drop, hn]
  have hz3 : ∀ w, (Go.sizeOf 73).run Tryz.prog w = .ok 3 w := fun w => by simp [sizeOf, typeInfo, hi0, hz1]
  have hone : ∀ u ∈ cellsN x, u.oneCell' = true := by
    intro u hu
    simp [cellsN] at hu
    rcases hu with rfl | rfl | rfl <;> rfl
  have hvc : ∀ j u, (cellsN x)[j]? = some u → w.cell? ⟨vb, j, none⟩ = some u := fun j u hj => by rw [cell_row hv]; simpa using hj
  have hcur : ∀ j, j < c * 3 → (w.cell? ⟨g, j, none⟩).isSome = true := fun j hj => by rw [cell_row hh, Array.getElem?_eq_getElem (by omega)]; rfl
  have hov : ∀ lb cb, (callFunc 114 #[.slice (some ⟨vb, 0, none⟩) 1 1, .slice (some ⟨g, (i + 1) * 3, none⟩) lb cb]).run Tryz.prog w = .ok (.value (.bool false)) w := fun lb cb => by
    rw [run_callFunc_extern Tryz.func114 (by kernel_rfl) (by kernel_rfl) (by kernel_rfl) (e := Extern.SlicesOverlaps.overlaps #[23, 23] #[4]) (by kernel_rfl),
      Lib.run_overlaps_apart w 23 4 73 Tryz.underlying23 3 hz3 ⟨vb, 0, none⟩ ⟨g, (i + 1) * 3, none⟩ 1 1 lb cb hne 73 73 3 (c * 3) (by simp [World.shape?, hv, cellsN]) (by simp [World.shape?, hh, hsz]) (by omega) (froz_row hv _) (froz_row hv _)]
    rfl
  have hcp1 : ∀ ty dc sc, (Builtin.copy_ #[23, 23] ty #[.slice (some ⟨g, (i + 1) * 3, none⟩) (n - i) dc, .slice (some ⟨g, i * 3, none⟩) (n + 1 - i) sc]).run Tryz.prog w.drew = .ok (goInt (n - i : Nat)) (w.drew.setCells g ((i + 1) * 3) (cellsT (t.drop i))) := fun ty dc sc =>
    copy_cellsN w.drew _ _ ty 73 3 g ((i + 1) * 3) (n - i) dc ⟨g, i * 3, none⟩ (n + 1 - i) sc (n - i) (cellsT (t.drop i)) Tryz.underlying23 hs3 (by simp only [Nat.min_def]; split <;> omega) hdl
      (fun j v hj => by
        rw [Addr.add_lit]
        show w.cell? _ = _
        rw [cell_row hh]
        refine cellsT_at7 ht ?_
        rwa [← cellsT_drop, List.getElem?_drop] at hj)
      (fun j hj => hcur _ (by omega)) (fun j hj => froz_row hh _) (cellsT_one _)
  obtain ⟨W1, hW1⟩ : ∃ W1, W1 = w.drew.setCells g ((i + 1) * 3) (cellsT (t.drop i)) := ⟨_, rfl⟩
  obtain ⟨c1, k1, k2, k3⟩ := setCells_block (w := w.drew) (cellsT (t.drop i)) hh (o := (i + 1) * 3) (by omega)
  rw [← hW1] at k1
  have hcp2 : ∀ (W : World), (∀ x, W.cell? x = W1.cell? x) → (∀ x, W.frozen? x = W1.frozen? x) → ∀ ty dc, (Builtin.copy_ #[23, 23] ty #[.slice (some ⟨g, i * 3, none⟩) (n + 1 - i) dc, .slice (some ⟨vb, 0, none⟩) 1 1]).run Tryz.prog W = .ok (goInt (1 : Nat)) (W.setCells g (i * 3) (cellsN x)) := fun W hWc hWf ty dc =>
    copy_cellsN W _ _ ty 73 3 g (i * 3) (n + 1 - i) dc ⟨vb, 0, none⟩ 1 1 1 (cellsN x) Tryz.underlying23 hs3 (by simp only [Nat.min_def]; split <;> omega) rfl
      (fun j v hj => by
        rw [Addr.add_lit, hWc, hW1, World.cell?_setCells_out g _ _ _ _ (fun h _ => absurd h hne), Nat.zero_add]
        exact hvc j v hj)
      (fun j hj => by
        have : j < 3 := hj
        rw [hWc, cell_row k1, Array.getElem?_eq_getElem (by omega)]; rfl)
      (fun j hj => by rw [hWf]; exact froz_row k1 _) hone
  rw [← hW1] at hcp1
  have hw1 : IntKind.i64.wrap ((i : Int) + (1 : Int)) = (i : Int) + (1 : Int) := by rw [IntKind.wrap_i64]; omega
  have hw2 : IntKind.i64.wrap ((n : Int) + (1 : Int)) = (n : Int) + (1 : Int) := by rw [IntKind.wrap_i64]; omega
  have hb1 : (0 : Int) ≤ (i : Int) + (1 : Int) := by omega
  have hin : i ≤ n := by omega
  have htn : ((i : Int) + (1 : Int)).toNat = i + 1 := by omega
  have htn2 : ((n : Int) + (1 : Int)).toNat = n + 1 := by omega
  have hz4 : ¬ ((i : Int) = (n : Int)) := by omega
  have hb2 : ¬ (c = i + 1) := by omega
  have hb3 : (i : Int) ≤ (n : Int) + (1 : Int) := by omega
  have hb4 : ¬ (c = i) := by omega
  have mixed : Tryz.prog.follows Departure.mixedOrders = true := by kernel_rfl
  clear hh hv ht hcur hvc hone k1 k2 k3
  go_enter Tryz.func91, Tryz.ntmps91
  go_wp2_with (simp only [hov])
  go_region_law_o (refine step_copy_runI rfl _ _ 23 23 rfl _ _ (by simp [Act.eval, Act.put]) (by simp [Act.eval, Act.put]) (hcp1 _ _ _) ?_)
  go_wp2_with (at_builtin; refine wpList_copy_runI _ rfl _ _ 23 23 rfl _ _ rfl rfl (hcp2 _ (fun _ => rfl) (fun _ => rfl) _ _) ?_)
  go_ret
  first | exact ⟨rfl, rfl⟩ | exact ⟨rfl, by rw [hW1]⟩
set_option maxHeartbeats 4000000 in
set_option maxRecDepth 100000 in
/-- slices.Insert in the middle, where there is no room: a new row. -/
theorem insert_grow (g n c i : Nat) (cur : Array Value) (t : List S73) (x : S73) (vb : Nat) (w : World) (hh : w.heap[g]? = some (.cells cur 73 (0, 0))) (hsz : cur.size = c * 3) (ht : cur.toList.take (n * 3) = cellsT t)
    (hn : t.length = n) (hi : i < n) (hnc : n ≤ c) (hr : c < n + 1) (hm : c ≤ maxLen) (hlen : n ≤ 1099511627776) (hv : w.heap[vb]? = some (.cells (cellsN x).toArray 73 (0, 0))) :
    Calls Tryz.prog 91 #[.slice (some ⟨g, 0, none⟩) n c, .int .i64 i, .slice (some ⟨vb, 0, none⟩) 1 1] w fun e w' =>
      ∃ G ROW, n + 1 ≤ G ∧ G ≤ maxLen ∧ ROW.size = G * 3 ∧ ROW.toList.take (i * 3) = cellsT (t.take i) ∧ e = .returned (.slice (some ⟨w.heap.size, 0, none⟩) (n + 1) G) ∧
        w' = (((w.alloc (.cells ROW 73)).drew.setCells w.heap.size (i * 3) (cellsN x)).drew).setCells w.heap.size ((i + 1) * 3) (cellsT (t.drop i)) := by
  obtain ⟨i0, hi0, hz0, hz1, hz2⟩ := info_parts infoN
  have u23 : ∀ w, Sem.run Tryz.prog (underlying 23) w = .ok (TypeDesc.slice 73) w := run_underlying Tryz.underlying23
  have hs3 : (Tryz.prog.info? 73).map (·.size) = some 3 := by rw [hi0]; simp [hz1]
  have hmx : maxLen ≤ 9223372036854775807 := by decide
  have hmx2 : 1099511627777 ≤ maxLen := by decide
  have hdl : (cellsT (t.drop i)).length = (n - i) * 3 := by rw [cellsT_len, List.length_drop, hn]
  have hone : ∀ u ∈ cellsN x, u.oneCell' = true := by
    intro u hu
    simp [cellsN] at hu
    rcases hu with rfl | rfl | rfl <;> rfl
  have hgw : g < w.heap.size := (Array.getElem?_eq_some_iff.1 hh).1
  have hvw : vb < w.heap.size := (Array.getElem?_eq_some_iff.1 hv).1
  have hvc : ∀ j u, (cellsN x)[j]? = some u → w.cell? ⟨vb, j, none⟩ = some u := fun j u hj => by rw [cell_row hv]; simpa using hj
  have hcs : ∀ j v, (cellsT t)[j]? = some v → w.cell? ⟨g, j, none⟩ = some v := fun j v hj => by rw [cell_row hh]; exact cellsT_at7 ht hj
  have hkk : (n : Int) + (1 : Int) - (i : Int) = ((n + 1 - i : Nat) : Int) := by omega
  have hik : i + (n + 1 - i) = n + 1 := by omega
  have hold : (Builtin.firstCells i0.size i (.slice (some ⟨g, 0, none⟩) i c)).run Tryz.prog w.drew = .ok (cellsT (t.take i)).toArray w.drew := by
    rw [hz1]
    exact run_firstCells_some w.drew 3 i ⟨g, 0, none⟩ i c (cellsT (t.take i)) (by rw [cellsT_len, List.length_take]; omega) (fun j v hj => by
      rw [Addr.add_lit, Nat.zero_add]
      rw [← cellsT_take, List.getElem?_take] at hj
      split at hj
      · exact hcs j v hj
      · cases hj)
  obtain ⟨G, hG⟩ : ∃ G, G = grownCap w (n + 1) c 73 := ⟨_, rfl⟩
  obtain ⟨ROW, hROW⟩ : ∃ ROW : Array Value, ROW = (cellsT (t.take i)).toArray ++ Builtin.zeroCells (Value.agg #[(.string ⟨#[]⟩), (.bool false), (.string ⟨#[]⟩)]).cells (n + 1 - i) ++ Builtin.zeroCells (Value.agg #[(.string ⟨#[]⟩), (.bool false), (.string ⟨#[]⟩)]).cells (G - (n + 1)) := ⟨_, rfl⟩
  have hGn : n + 1 ≤ G := by rw [hG]; exact grownCap_ge w _ _ _
  have hGm : G ≤ maxLen := by rw [hG]; exact grownCap_le_maxLen w (n + 1) c 73 (by omega)
  have hRl : ROW.size = G * 3 := by
    rw [hROW, Array.size_append, Array.size_append, zero_len, zero_len, List.size_toArray, cellsT_len, List.length_take]
    omega
  have hRt : ROW.toList.take (i * 3) = cellsT (t.take i) := by
    rw [hROW, Array.toList_append, Array.toList_append, List.append_assoc, List.take_left']
    rw [cellsT_len, List.length_take]
    omega
  have hrz : ∀ ty, (Builtin.append_ #[23, 3] ty #[.slice (some ⟨g, 0, none⟩) i c, .int .i64 ((n : Int) + (1 : Int) - (i : Int))]).run Tryz.prog w =
      .ok (.slice (some ⟨w.heap.size, 0, none⟩) (n + 1) G) (w.drew.alloc (.cells ROW 73)) := fun ty => by
    have h := Lib.run_append_grow_zeros w 23 3 ty 73 i0 _ .i64 .i64 Tryz.underlying23 Tryz.underlying3 hi0 hz0 (some ⟨g, 0, none⟩) i c (cellsT (t.take i)) hold (n + 1 - i) (by omega) (by omega) (by omega) (by omega) (by rw [hz2]; omega) (by rw [hz2, hik]; exact growslice_fits hr (by omega))
    rw [hik, ← hG, ← hROW] at h
    rw [hkk]
    exact h
  obtain ⟨W1, hW1⟩ : ∃ W1, W1 = w.drew.alloc (.cells ROW 73) := ⟨_, rfl⟩
  have hk1 : W1.heap[w.heap.size]? = some (.cells ROW 73 (0, 0)) := by rw [hW1]; exact World.alloc_heap_new w.drew _
  rw [← hW1] at hrz
  have hOb : ∀ b j v, b < w.heap.size → w.cell? ⟨b, j, none⟩ = some v → W1.cell? ⟨b, j, none⟩ = some v := fun b j v hb h => by rw [hW1, World.cell?_alloc_past (w := w.drew) _ b j hb]; exact h
  have hcpA : ∀ (W : World), (∀ x, W.cell? x = W1.cell? x) → (∀ x, W.frozen? x = W1.frozen? x) → ∀ ty dc, (Builtin.copy_ #[23, 23] ty #[.slice (some ⟨w.heap.size, i * 3, none⟩) (n + 1 - i) dc, .slice (some ⟨vb, 0, none⟩) 1 1]).run Tryz.prog W = .ok (goInt (1 : Nat)) (W.setCells w.heap.size (i * 3) (cellsN x)) := fun W hWc hWf ty dc =>
    copy_cellsN W _ _ ty 73 3 w.heap.size (i * 3) (n + 1 - i) dc ⟨vb, 0, none⟩ 1 1 1 (cellsN x) Tryz.underlying23 hs3 (by simp only [Nat.min_def]; split <;> omega) rfl
      (fun j v hj => by
        rw [Addr.add_lit, hWc, Nat.zero_add]
        exact hOb _ _ _ hvw (hvc j v hj))
      (fun j hj => by
        have : j < 3 := hj
        rw [hWc, cell_row hk1, Array.getElem?_eq_getElem (by omega)]; rfl)
      (fun j hj => by rw [hWf]; exact froz_row hk1 _) hone
  obtain ⟨c1, k1, k2, k3⟩ := setCells_block (cellsN x) hk1 (o := i * 3) (by show i * 3 + 3 ≤ _; omega)
  have hgN : g ≠ w.heap.size := by omega
  have hcpB : ∀ (W : World), (∀ y, W.cell? y = (W1.setCells w.heap.size (i * 3) (cellsN x)).cell? y) → (∀ y, W.frozen? y = (W1.setCells w.heap.size (i * 3) (cellsN x)).frozen? y) → ∀ ty dc sc, (Builtin.copy_ #[23, 23] ty #[.slice (some ⟨w.heap.size, (i + 1) * 3, none⟩) (n - i) dc, .slice (some ⟨g, i * 3, none⟩) (n - i) sc]).run Tryz.prog W = .ok (goInt (n - i : Nat)) (W.setCells w.heap.size ((i + 1) * 3) (cellsT (t.drop i))) := fun W hWc hWf ty dc sc =>
    copy_cellsN W _ _ ty 73 3 w.heap.size ((i + 1) * 3) (n - i) dc ⟨g, i * 3, none⟩ (n - i) sc (n - i) (cellsT (t.drop i)) Tryz.underlying23 hs3 (by simp only [Nat.min_def]; split <;> omega) hdl
      (fun j v hj => by
        rw [Addr.add_lit, hWc, World.cell?_setCells_out _ _ _ _ _ (fun h _ => absurd h hgN)]
        refine hOb _ _ _ hgw (hcs _ v ?_)
        rwa [← cellsT_drop, List.getElem?_drop] at hj)
      (fun j hj => by rw [hWc, cell_row k1, Array.getElem?_eq_getElem (by omega)]; rfl)
      (fun j hj => by rw [hWf]; exact froz_row k1 _) (cellsT_one _)
  subst hW1
  have hE1 : ∀ y, ((w.alloc (.cells ROW 73)).drew).cell? y = (w.drew.alloc (.cells ROW 73)).cell? y := fun y => rfl
  have hE2 : ∀ y, ((w.alloc (.cells ROW 73)).drew).frozen? y = (w.drew.alloc (.cells ROW 73)).frozen? y := fun y => rfl
  have hF1 : ∀ y, (((w.alloc (.cells ROW 73)).drew.setCells w.heap.size (i * 3) (cellsN x)).drew).cell? y = ((w.drew.alloc (.cells ROW 73)).setCells w.heap.size (i * 3) (cellsN x)).cell? y := fun y => rfl
  have hF2 : ∀ y, (((w.alloc (.cells ROW 73)).drew.setCells w.heap.size (i * 3) (cellsN x)).drew).frozen? y = ((w.drew.alloc (.cells ROW 73)).setCells w.heap.size (i * 3) (cellsN x)).frozen? y := fun y => rfl
  have hw1 : IntKind.i64.wrap ((i : Int) + (1 : Int)) = (i : Int) + (1 : Int) := by rw [IntKind.wrap_i64]; omega
  have hw2 : IntKind.i64.wrap ((n : Int) + (1 : Int)) = (n : Int) + (1 : Int) := by rw [IntKind.wrap_i64]; omega
  have hw3 : IntKind.i64.wrap ((n : Int) + (1 : Int) - (i : Int)) = (n : Int) + (1 : Int) - (i : Int) := by rw [IntKind.wrap_i64]; omega
  have hb1 : (0 : Int) ≤ (i : Int) + (1 : Int) := by omega
  have hin : i ≤ n := by omega
  have htn : ((i : Int) + (1 : Int)).toNat = i + 1 := by omega
  have hz4 : ¬ ((i : Int) = (n : Int)) := by omega
  have hz5 : decide ((c : Int) < (n : Int) + (1 : Int)) = true := decide_eq_true (by omega)
  have hGi : ¬ (G = i) := by omega
  have hGim : ¬ (G = i + 1) := by omega
  have hci : ¬ (c = i) := by omega
  have hb3 : (i : Int) ≤ (n : Int) := by omega
  have mixed : Tryz.prog.follows Departure.mixedOrders = true := by kernel_rfl
  clear hkk hik hold hROW hG hh hv ht hvc hone k1 k2 k3 hcs hk1 hOb
  go_enter Tryz.func91, Tryz.ntmps91
  go_wp2_with (first
    | (at_builtin; refine Lib.wpList_append_run _ rfl _ _ _ _ rfl _ _ rfl rfl _ _ (hrz _) ?_)
    | (at_builtin; refine wpList_copy_runI _ rfl _ _ 23 23 rfl _ _ rfl rfl (hcpA _ hE1 hE2 _ _) ?_)
    | (at_builtin; refine wpList_copy_runI _ rfl _ _ 23 23 rfl _ _ rfl rfl (hcpB _ (fun _ => rfl) (fun _ => rfl) _ _ _) ?_))
  go_region_law_o (refine step_copy_runI rfl _ _ 23 23 rfl (.slice (some ⟨w.heap.size, (i + 1) * 3, none⟩) (n - i) (G - (i + 1))) (.slice (some ⟨g, i * 3, none⟩) (n - i) (c - i)) (by simp [Act.eval, Act.put]) (by simp [Act.eval, Act.put]) (hcpB _ hF1 hF2 3 (G - (i + 1)) (c - i)) ?_)
  go_wp2
  go_ret
  exact ⟨G, ROW, hGn, hGm, hRl, hRt, rfl, rfl⟩
/-- slices.Insert: ahead of the place, the node, the others. -/
theorem insert_calls (v : Value) (base : Nat) (t : List S73) (x : S73) (i : Nat) (vb : Nat) (w : World) (hv : OwnT w base v t) (hl : t.length ≤ 1099511627776) (hi : i ≤ t.length) (hb : base ≤ w.heap.size)
    (hx : w.heap[vb]? = some (.cells (cellsN x).toArray 73 (0, 0))) (hne : v.ownBlock ≠ some vb) :
    Calls Tryz.prog 91 #[v, .int .i64 i, .slice (some ⟨vb, 0, none⟩) 1 1] w fun e w' => ∃ v', e = .returned v' ∧ OwnT w' base v' (t.take i ++ x :: t.drop i) ∧ w.grownBy w' v.ownBlock := by
  by_cases hlt : i < t.length
  · obtain ⟨A, c, rfl, hc, _⟩ := hv.reads
    have hA : ∃ g, A = some ⟨g, 0, none⟩ := by
      rcases hv.2 with ⟨h2, h3⟩ | ⟨g', cap', cur, h2, _⟩
      · omega
      · cases h2
        exact ⟨_, rfl⟩
    obtain ⟨g, rfl⟩ := hA
    obtain ⟨h1, h2, h3, h4, cur, h5, h6, h7⟩ := hv.at rfl
    have hvg : vb ≠ g := fun e => hne (by rw [e]; rfl)
    by_cases hr : t.length + 1 ≤ c
    · refine (insert_shift g t.length c i base cur t x vb w h2 h5 h6 h7 rfl hlt hr h4 hl hx hvg).mono ?_
      rintro e w' ⟨rfl, rfl⟩
      refine ⟨_, rfl, own_shift (w := w.drew) x h2 h5 h6 h7 rfl hlt hr h4, ?_⟩
      have hkeep : ∀ k, k ≠ g → ((w.drew.setCells g ((i + 1) * 3) (cellsT (t.drop i))).setCells g (i * 3) (cellsN x)).heap[k]? = w.heap[k]? := fun k hk =>
        (setCells_other g _ _ _ k hk).trans (setCells_other g _ _ w.drew k hk)
      have hB := setCells_below g (Nat.zero_le g) (cellsN x) (i * 3) _ (setCells_below g (Nat.zero_le g) (cellsT (t.drop i)) ((i + 1) * 3) w.drew (pw_below_drewN (Below.refl 0 w) 1))
      exact ⟨hB.os, hB.tape, hB.output, hB.size, fun k hk hkr => hkeep k (fun e => hkr (by rw [e]; rfl))⟩
    · refine (insert_grow g t.length c i cur t x vb w h5 h6 h7 rfl hlt h3 (by omega) h4 hl hx).mono ?_
      rintro e w' ⟨G, ROW, hG1, hG2, hR1, hR2, rfl, rfl⟩
      refine ⟨_, rfl, by rw [drew_setCells]; exact own_grow (w := (w.alloc (.cells ROW 73)).drew.drew) x hb (World.alloc_heap_new w _) hR1 hR2 rfl hlt hG1 hG2, ?_⟩
      have hB := setCells_below w.heap.size (Nat.le_refl _) (cellsT (t.drop i)) ((i + 1) * 3) _ (pw_below_drewN (setCells_below w.heap.size (Nat.le_refl _) (cellsN x) (i * 3) _ (pw_below_drewN ((Below.refl w.heap.size w).alloc (Nat.le_refl _) (.cells ROW 73)) 1)) 1)
      exact ⟨hB.os, hB.tape, hB.output, hB.size, fun k hk _ => hB.block k hk⟩
  · obtain rfl : i = t.length := by omega
    refine (insert_end v base t x vb w hv hl hb (fun j u hj => by rw [addr_add, cell_row hx, Nat.zero_add]; simpa using hj)).mono ?_
    rintro e w' ⟨v', rfl, h1, h2⟩
    refine ⟨v', rfl, ?_, h2⟩
    rw [List.take_length, List.drop_length]
    exact h1
end Go.Proofs.YtdfddiehiiaepaaGreatDoor.Ext

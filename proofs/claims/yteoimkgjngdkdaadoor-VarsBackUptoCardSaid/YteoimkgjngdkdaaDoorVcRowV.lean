/- Proved: slices.Clone of variables: a row of the call's own with the same cells; what variables' cells are. Condition: at most 2 to the 40 variables. -/
import Derived.Test.YteoimkgjngdkdaaDoorVcCloneS
import Derived.Test.YteoimkgjngdkdaaDoorVcP1
import Derived.Maps.AppendAt
import Derived.OwnWalk
import Derived.Lib.SliceRun
set_option linter.unusedVariables false
set_option linter.unusedSimpArgs false
namespace Go.Proofs.YteoimkgjngdkdaaDoor.Ext
open Go.RowKit Go.Shelf Go.Proofs.YteoimkgjngdkdaaDoorW.PrintWords Go.Proofs.YteoimkgjngdkdaaDoor.P
theorem kV_K {w : World} {p : S53} {cs : List Value} (h : k53.K w p cs) : ∃ A c, cs = [.string p.f0, .string p.f1, .bool p.f2, .slice A p.f3.length c] ∧ p.f3.length ≤ c ∧ Kd.C Kd.string w A p.f3.length p.f3 := by
  obtain ⟨c0, c1, rfl, h0, c2, c3, rfl, h1, c4, c5, rfl, h2, A, c, rfl, hl, hC⟩ := h
  cases h0
  cases h1
  cases h2
  exact ⟨A, c, rfl, hl, hC⟩
theorem kV_M {w : World} {base : Nat} {ok : Nat → Prop} (p : S53) (v : Value) (h : Kd.R Kd.string 9 w base ok v p.f3) : k53.M w base ok p [.string p.f0, .string p.f1, .bool p.f2, v] :=
  ⟨[.string p.f0], _, rfl, rfl, [.string p.f1], _, rfl, rfl, [.bool p.f2], _, rfl, rfl, v, rfl, h⟩
/-- The cells of a row of variables. -/
theorem inner_V {w : World} {A : Option Addr} {xs : List S53} (h : Kd.C k53 w A xs.length xs) :
    ∃ inner : List Value, inner.length = xs.length * 4 ∧ (∀ j p, xs[j]? = some p → k53.K w p ((inner.drop (j * 4)).take 4)) ∧ (∀ a, A = some a → ∀ j u, inner[j]? = some u → w.cell? (a.add j) = some u) ∧ (∀ u ∈ inner, u.oneCell' = true) ∧ (A = none → xs.length = 0) := by
  cases A with
  | none =>
    have hx : xs = [] := by
      refine List.eq_nil_of_length_eq_zero (Nat.eq_zero_of_not_pos fun hp => ?_)
      obtain ⟨ad, he, _⟩ := h.2.2 hp
      cases he
    subst hx
    exact ⟨[], rfl, fun j p hj => (by simp at hj), fun a ha => (by cases ha), fun u hu => (by simp at hu), fun _ => rfl⟩
  | some ad =>
    obtain ⟨inner, hr, hc⟩ := ReadsRow.inner_ h
    have hlen : inner.length = xs.length * 4 := hr.1
    refine ⟨inner, hlen, hr.2, fun a ha => (by cases ha; exact hc), fun u hu => ?_, fun e => (by cases e)⟩
    obtain ⟨i, hi, rfl⟩ := List.getElem_of_mem hu
    have hq : i / 4 < xs.length := by omega
    have hk : k53.K w xs[i / 4] ((inner.drop (i / 4 * 4)).take 4) := hr.2 (i / 4) _ (List.getElem?_eq_getElem hq)
    refine k53.K_one hk _ (List.mem_iff_getElem?.2 ⟨i % 4, ?_⟩)
    rw [List.getElem?_take_of_lt (by omega), List.getElem?_drop, show i / 4 * 4 + i % 4 = i by omega, List.getElem?_eq_getElem hi]
theorem infoV : (Tryd.prog.info? 53).map (fun i => (i.zero, i.size, i.bytes)) = some (some (.agg #[(.string ⟨#[]⟩), (.string ⟨#[]⟩), (.bool false), (.slice none 0 0)]), 4, 64) := by kernel_rfl
set_option maxHeartbeats 4000000 in
set_option maxRecDepth 100000 in
theorem cloneV_calls (A : Option Addr) (c n : Nat) (cs : List Value) (w : World) (hlen : cs.length = n * 4) (hcell0 : ∀ a, A = some a → ∀ j u, cs[j]? = some u → w.cell? (a.add j) = some u) (hone : ∀ u ∈ cs, u.oneCell' = true) (hn : A = none → n = 0) (hc : n ≤ c) (hl : n ≤ 1099511627776) :
    Calls Tryd.prog 47 #[.slice A n c] w fun e w' => ∃ v, e = .returned v ∧ w'.ownsRow w.heap.size 53 4 v n cs ∧ Below w.heap.size w w' := by
  have q23 : ∀ (w : World) (a : Option Addr) (n c n' c' : Nat), (binOp .eql 22 (.slice a n c) (.slice none n' c')).run Tryd.prog w = .ok (.bool a.isNone) w := fun w a n c n' c' => Lib.run_eql_slice_nil w _ _ a n c n' c' Tryd.underlying22
  have u23 : ∀ w, Sem.run Tryd.prog (underlying 22) w = .ok (TypeDesc.slice 53) w := run_underlying Tryd.underlying22
  cases A with
  | none =>
    obtain rfl := hn rfl
    obtain rfl : cs = [] := List.eq_nil_of_length_eq_zero (by omega)
    go_enter Tryd.func47, Tryd.ntmps47
    go_wp2
    go_ret
    exact ⟨_, rfl, World.ownsRow_nil _ _ _ _, Below.refl _ _⟩
  | some a =>
    obtain ⟨i0, hi, hz0, hz1, hz2⟩ := info_parts infoV
    have hcell : ∀ j u, cs[j]? = some u → (w.alloc (.cells #[] 53)).cell? (a.add j) = some u := fun j u hj => pw_cell_below ((Below.refl _ w).alloc (Nat.le_refl _) (.cells #[] 53)) (hcell0 a rfl j u hj)
    have hmx : (1099511627776 : Nat) + 2 ≤ maxLen := by decide
    have hmade : (w.alloc (.cells #[] 53)).ownsRow w.heap.size 53 4 (.slice (some ⟨w.heap.size, 0, none⟩) 0 0) 0 [] :=
      ⟨rfl, .inr ⟨w.heap.size, 0, #[], rfl, Nat.le_refl _, heap_alloc_new _ _, Nat.le_refl _, Nat.zero_le _, rfl, rfl⟩⟩
    clear hcell0
    go_enter Tryd.func47, Tryd.ntmps47
    go_wp2_with (at_builtin; refine wpList_append_own _ rfl _ _ 22 rfl w.heap.size 53 i0 (.agg #[(.string ⟨#[]⟩), (.string ⟨#[]⟩), (.bool false), (.slice none 0 0)]) 4 64 Tryd.underlying22 hi hz0 hz1 hz2 rfl (by decide) _ _ _ rfl hmade a n c cs rfl hlen hcell hone (by omega) (by omega) (by simp) ?_)
    intro v' w1 hown hgrow hnil
    go_wp2
    go_ret
    refine ⟨v', rfl, by simpa using hown, ?_⟩
    exact ((Below.refl _ w).alloc (Nat.le_refl _) _).grown hgrow (by simp) (by intro k hk; simp [Value.ownBlock] at hk; omega)
/-- The first i variables have lists of their own (f: whose a block is), the others those of the world w0. -/
def RowV (f : Nat → Nat) (w0 w : World) (base g cap i : Nat) (xs : List S53) (inner : List Value) : Prop :=
  w.ownsRow base 53 4 (.slice (some ⟨g, 0, none⟩) xs.length cap) xs.length inner ∧ (∀ j p, xs[j]? = some p → j < i → k53.M w base (fun k => k ≠ g ∧ f k = j) p ((inner.drop (j * 4)).take 4)) ∧ (∀ j p, xs[j]? = some p → i ≤ j → k53.K w0 p ((inner.drop (j * 4)).take 4))
theorem chunk_set {cs : List Value} {i : Nat} (u : Value) (j : Nat) (hij : j ≠ i) : ((cs.set (i * 4 + 3) u).drop (j * 4)).take 4 = (cs.drop (j * 4)).take 4 := by
  apply List.ext_getElem?
  intro k
  rcases Nat.lt_or_ge k 4 with hk | hk
  · rw [List.getElem?_take_of_lt hk, List.getElem?_take_of_lt hk, List.getElem?_drop, List.getElem?_drop, List.getElem?_set_ne (by omega)]
  · rw [List.getElem?_take_eq_none hk, List.getElem?_take_eq_none hk]
theorem chunk_own {cs : List Value} {i : Nat} {a b c d : Value} (h : (cs.drop (i * 4)).take 4 = [a, b, c, d]) (u : Value) : ((cs.set (i * 4 + 3) u).drop (i * 4)).take 4 = [a, b, c, u] := by
  have g : ∀ k, k < 4 → cs[i * 4 + k]? = [a, b, c, d][k]? := fun k hk => by rw [← h, List.getElem?_take_of_lt hk, List.getElem?_drop]
  have hlt : i * 4 + 3 < cs.length := (List.getElem?_eq_some_iff.1 (g 3 (by omega))).1
  apply List.ext_getElem?
  intro k
  rcases Nat.lt_or_ge k 4 with hk | hk
  · rw [List.getElem?_take_of_lt hk, List.getElem?_drop]
    rcases Nat.lt_or_ge k 3 with h3 | h3
    · rw [List.getElem?_set_ne (by omega), g k hk]
      match k, h3 with
      | 0, _ => rfl
      | 1, _ => rfl
      | 2, _ => rfl
    · obtain rfl : k = 3 := by omega
      rw [List.getElem?_set_self hlt]
      rfl
  · rw [List.getElem?_take_eq_none hk, List.getElem?_eq_none (by simpa using hk)]
theorem RowV.step {f : Nat → Nat} {w0 w w1 : World} {base g cap i : Nat} {xs : List S53} {inner : List Value} {p : S53} {v : Value} (h : RowV f w0 w base g cap i xs inner) (hp : xs[i]? = some p) (hw : Below w.heap.size w w1) (hv : Kd.R Kd.string 9 w1 w.heap.size (fun _ => True) v p.f3) (hbase : base ≤ w.heap.size) (hg : g < w.heap.size) :
    RowV (fun k => if w.heap.size ≤ k then i else f k) w0 (w1.setCell ⟨g, i * 4 + 3, none⟩ v) base g cap (i + 1) xs (inner.set (i * 4 + 3) v) := by
  obtain ⟨h1, h2, h3⟩ := h
  refine ⟨((pw_own_below h1 hw).stored (i * 4 + 3) v).1, fun j q hq hj => ?_, fun j q hq hj => ?_⟩
  · by_cases hji : j = i
    · subst hji
      rw [hp] at hq
      obtain rfl := Option.some.inj hq
      obtain ⟨A, c, hK, _, _⟩ := kV_K (h3 j p hp (Nat.le_refl _))
      rw [chunk_own hK v]
      refine kV_M p v ?_
      have hb := Kd.R_lower (Kd.R_mono (Kd.R_bound hv) (ok' := fun k => k ≠ g ∧ (if w.heap.size ≤ k then j else f k) = j) (fun k hk => by
        have := hk.2.1
        exact ⟨by omega, by rw [if_pos this]⟩)) hbase
      exact Kd.R_far hb (fun k hk => hk.1) v
    · rw [chunk_set v j hji]
      have h4 := k53.M_mono (ok' := fun k => k ≠ g ∧ (if w.heap.size ≤ k then i else f k) = j) (fun k hk => ⟨hk.1.1, by rw [if_neg (by omega)]; exact hk.1.2⟩) (k53.M_bound (h2 j q hq (by omega)))
      exact Kd.M_far (Kd.M_below h4 hw) (fun k hk => hk.1) v
  · rw [chunk_set v j (by omega)]
    exact h3 j q hq (by omega)
theorem RowV.whole {f : Nat → Nat} {w0 w : World} {base g cap : Nat} {xs : List S53} {inner : List Value} (h : RowV f w0 w base g cap xs.length xs inner) : Kd.S k53 53 w base (fun _ => True) (.slice (some ⟨g, 0, none⟩) xs.length cap) xs := by
  obtain ⟨h1, h2, h3⟩ := h
  refine ⟨f, fun _ _ => trivial, inner, by rw [List.length_zipIdx]; exact h1, by rw [List.length_zipIdx]; exact h1.1, fun j p hj => ?_⟩
  rw [List.getElem?_zipIdx, Nat.zero_add] at hj
  obtain ⟨x, hx, rfl⟩ := Option.map_eq_some_iff.1 hj
  exact k53.M_mono (fun k hk => ⟨⟨trivial, fun e => hk.1 (by simpa [Value.ownBlock] using e)⟩, hk.2⟩) (h2 j x hx (List.getElem?_eq_some_iff.1 hx).1)
theorem RowV.cells {f : Nat → Nat} {w0 w : World} {base g cap i : Nat} {xs : List S53} {inner : List Value} {p : S53} (h : RowV f w0 w base g cap i xs inner) (hp : xs[i]? = some p) :
    ∃ A c, p.f3.length ≤ c ∧ Kd.C Kd.string w0 A p.f3.length p.f3 ∧ w.cell? ⟨g, i * 4, none⟩ = some (.string p.f0) ∧ w.cell? ⟨g, i * 4 + 1, none⟩ = some (.string p.f1) ∧ w.cell? ⟨g, i * 4 + 2, none⟩ = some (.bool p.f2) ∧ w.cell? ⟨g, i * 4 + 3, none⟩ = some (.slice A p.f3.length c) ∧ w.frozen? ⟨g, i * 4 + 3, none⟩ = false := by
  obtain ⟨h1, h2, h3⟩ := h
  obtain ⟨A, c, hK, hl, hC⟩ := kV_K (h3 i p hp (Nat.le_refl _))
  have hlt := (List.getElem?_eq_some_iff.1 hp).1
  have g4 : ∀ k, k < 4 → w.cell? ⟨g, i * 4 + k, none⟩ = [Value.string p.f0, .string p.f1, .bool p.f2, .slice A p.f3.length c][k]? := fun k hk => by
    rw [h1.cellAt (i * 4 + k) (by omega), ← hK, List.getElem?_take_of_lt hk, List.getElem?_drop]
  exact ⟨A, c, hl, hC, g4 0 (by omega), g4 1 (by omega), g4 2 (by omega), g4 3 (by omega), h1.frozenAt _⟩
end Go.Proofs.YteoimkgjngdkdaaDoor.Ext

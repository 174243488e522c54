/- Proved: tree.parts of a text: its parts, in a slice of its own. Condition: texts shorter than 2 to the 40. -/
import Derived.Test.YtdfddiehiiaepaaGreatDoorVsSplit
set_option linter.unusedVariables false
set_option linter.unusedSimpArgs false
namespace Go.Proofs.YtdfddiehiiaepaaGreatDoor.Ext
open Go.RowKit Go.Shelf
attribute [local go_sem] Oper.semAt_some
/-- One part more, as texts. -/
def stepB (acc : List ByteArray) (x : ByteArray) : List ByteArray :=
  if (x.toList == []) = true ∨ (x.toList == [46]) = true then acc else if (x.toList == [46, 46]) = true then acc.dropLast else acc ++ [x]
def partsB (s : ByteArray) : List ByteArray := (piecesB s).foldl stepB []
theorem infoS : (Tryz.prog.info? 9).map (fun i => (i.zero, i.size, i.bytes)) = some (some (.string ⟨#[]⟩), 1, 16) := by kernel_rfl
theorem own_take {W : World} {b e n : Nat} {v : Value} {xs : List Value} {k : Nat} (h : W.ownsRow b e 1 v n xs) (hk : k ≤ n) {A : Option Addr} {c : Nat} (hv : v = .slice A n c) : W.ownsRow b e 1 (.slice A k c) k (xs.take k) := by
  subst hv
  obtain ⟨h1, h2⟩ := h
  refine ⟨by rw [List.length_take]; omega, ?_⟩
  rcases h2 with ⟨h2, h3⟩ | ⟨g, cap, cur, h2, hg, hh, h5, h6, h7, h8⟩
  · cases h2
    obtain rfl : k = 0 := by omega
    exact .inl ⟨rfl, rfl⟩
  · cases h2
    exact .inr ⟨g, c, cur, rfl, hg, hh, by omega, h6, h7, by rw [← h8, List.take_take]; congr 1; omega⟩
theorem own_weak {W : World} {b b' e sz n : Nat} {v : Value} {xs : List Value} (h : W.ownsRow b e sz v n xs) (hb : b' ≤ b) : W.ownsRow b' e sz v n xs := by
  obtain ⟨h1, h2⟩ := h
  refine ⟨h1, ?_⟩
  rcases h2 with h2 | ⟨g, cap, cur, rfl, hg, r⟩
  · exact .inl h2
  · exact .inr ⟨g, cap, cur, rfl, Nat.le_trans hb hg, r⟩
theorem own_by {W W' : World} {b e sz n : Nat} {v : Value} {xs : List Value} (h : W.ownsRow b e sz v n xs) (hm : ∀ k, b ≤ k → k < W.heap.size → W'.heap[k]? = W.heap[k]?) : W'.ownsRow b e sz v n xs := by
  obtain ⟨h1, h2⟩ := h
  refine ⟨h1, ?_⟩
  rcases h2 with h2 | ⟨g, cap, cur, rfl, hg, hh, r⟩
  · exact .inl h2
  · exact .inr ⟨g, cap, cur, rfl, hg, (hm g hg (Array.getElem?_eq_some_iff.1 hh).1).trans hh, r⟩
theorem own_form {W : World} {b e sz n : Nat} {v : Value} {xs : List Value} (h : W.ownsRow b e sz v n xs) : ∃ A c, v = .slice A n c ∧ n ≤ c := by
  rcases h.2 with ⟨rfl, rfl⟩ | ⟨g, cap, cur, rfl, _, _, h5, _⟩
  · exact ⟨_, _, rfl, Nat.le_refl _⟩
  · exact ⟨_, _, rfl, h5⟩
theorem own_blk {W : World} {b e sz n : Nat} {v : Value} {xs : List Value} (h : W.ownsRow b e sz v n xs) {k : Nat} (hk : v.ownBlock = some k) : b ≤ k := by
  rcases h.2 with ⟨rfl, rfl⟩ | ⟨g, cap, cur, rfl, hg, _⟩
  · simp [Value.ownBlock] at hk
  · have : g = k := by simpa [Value.ownBlock] using hk
    omega
theorem fold_len : ∀ (l acc : List ByteArray), (l.foldl stepB acc).length ≤ acc.length + l.length
  | [], acc => by simp
  | x :: l, acc => by
    have ih := fold_len l (stepB acc x)
    have : (stepB acc x).length ≤ acc.length + 1 := by
      unfold stepB
      split
      · omega
      · split
        · simp
          omega
        · simp
    rw [List.foldl_cons, List.length_cons]
    omega
theorem pieces_len (s : ByteArray) : (piecesB s).length ≤ s.size + 1 := by
  have := Path.splitL_sum 47 s.data.toList
  unfold piecesB
  rw [List.length_map, Lib.size_eq]
  omega
set_option maxRecDepth 100000 in
set_option maxHeartbeats 4000000 in
theorem parts_in (s : ByteArray) (w : World) (hsz : s.size ≤ 1099511627776) :
    CallsIn Fence.wide 5 Tryz.prog 51 #[.string s] w fun e W' => ∃ v, e = .returned v ∧ W'.ownsRow w.heap.size 9 1 v (partsB s).length ((partsB s).map Value.string) ∧ Below w.heap.size w W' := by
  obtain ⟨i0, hi, hz0, hz1, hz2⟩ := info_parts infoS
  have HS := SplitSeq_in 4 (by omega) s (w.alloc (.cells #[.slice none 0 0] 22))
  refine callsIn_of_wp_marks Tryz.func51 rfl trivial ?_ rfl
  simp only [Tryz.ntmps51, List.size_toArray, List.length_cons, List.length_nil, Nat.reduceAdd, Nat.reduceSub, Array.replicate_succ, Array.replicate_zero, List.push_toArray, List.append_toArray, List.nil_append, List.cons_append]
  gi_wp2
  refine ⟨trivial, ?_⟩
  refine HS.mono ?_
  rintro e w' ⟨rfl, rfl⟩
  rw [World.size_alloc]
  gi_wp2
  obtain ⟨W0, hW0⟩ : ∃ W0, (((w.alloc (.cells #[.slice none 0 0] 22)).alloc (.cells #[.string s] 9)).alloc (.cells #[.string ⟨#[47]⟩] 9)).alloc (.cells #[.int .i64 0] 3) = W0 := ⟨_, rfl⟩
  have hsz0 : W0.heap.size = w.heap.size + 4 := by rw [← hW0]; simp
  have k0 : Boxed W0 w.heap.size 22 (.slice none 0 0) := by rw [← hW0]; exact (((Boxed.new w _ _).alloc _).alloc _).alloc _
  have k1 : Boxed W0 (w.heap.size + 1) 9 (.string s) := by
    rw [← hW0]
    have := (((Boxed.new (w.alloc (.cells #[.slice none 0 0] 22)) 9 (.string s)).alloc (.cells #[.string ⟨#[47]⟩] 9)).alloc (.cells #[.int .i64 0] 3))
    rwa [World.size_alloc] at this
  have k2 : Boxed W0 (w.heap.size + 1 + 1) 9 (.string ⟨#[47]⟩) := by
    rw [← hW0]
    have := ((Boxed.new ((w.alloc (.cells #[.slice none 0 0] 22)).alloc (.cells #[.string s] 9)) 9 (.string ⟨#[47]⟩)).alloc (.cells #[.int .i64 0] 3))
    rwa [World.size_alloc, World.size_alloc] at this
  have k3 : Boxed W0 (w.heap.size + 1 + 2) 3 (.int .i64 0) := by
    rw [← hW0]
    have := Boxed.new (((w.alloc (.cells #[.slice none 0 0] 22)).alloc (.cells #[.string s] 9)).alloc (.cells #[.string ⟨#[47]⟩] 9)) 3 (.int .i64 0)
    rwa [World.size_alloc, World.size_alloc, World.size_alloc] at this
  have hB0 : Below w.heap.size w W0 := by rw [← hW0]; exact ((((Below.refl _ w).alloc (Nat.le_refl _) _).alloc (by simp) _).alloc (by simp; omega) _).alloc (by simp; omega) _
  rw [hW0]
  clear HS hW0
  refine wpIn_rangeFunc_box (Bs := w.heap.size + 1) (Nb := 3) rfl (by decide) (gf := 129) (lb := #[.pointer (some ⟨w.heap.size + 1 + 1, 0, none⟩), .pointer (some ⟨w.heap.size + 1, 0, none⟩), .pointer (some ⟨w.heap.size + 1 + 2, 0, none⟩)]) rfl trivial (enters_of Tryz.func129 (by kernel_rfl) rfl)
    (split_seq 4 (by decide) s (w.heap.size + 1) W0 k1 k2 k3 (by omega)) (Below.refl _ _) (by omega) (by decide) (fun _ => rfl)
    (fun pre W => (∃ v, Boxed W w.heap.size 22 v ∧ W.ownsRow (w.heap.size + 4) 9 1 v (pre.foldl stepB []).length ((pre.foldl stepB []).map Value.string)) ∧ Below w.heap.size w W ∧ w.heap.size + 4 ≤ W.heap.size)
    ?hI ?hIb ?hIc ⟨⟨_, k0, World.ownsRow_nil _ _ _ _⟩, hB0, by omega⟩
    (fun x => { tmps := #[.string s, undef, .slice none 0 0, .pointer (some ⟨w.heap.size, 0, none⟩), .string x, .string s, .func (.func 129) #[] #[.pointer (some ⟨w.heap.size + 1 + 1, 0, none⟩), .pointer (some ⟨w.heap.size + 1, 0, none⟩), .pointer (some ⟨w.heap.size + 1 + 2, 0, none⟩)], .string x, undef, undef, undef, undef, undef, undef, undef, undef, undef, undef, undef, undef, undef, undef, undef, undef, undef], defers := [] }) ?assign ?body ?done
  case hI =>
    rintro pre A B row ⟨⟨v, hv, hr⟩, hb, hs⟩ hg hrow
    have hne : ∀ k, row = some k → W0.heap.size ≤ k := fun k e => (hrow k e).1
    have hv' : Boxed B w.heap.size 22 v := hv.kept hg (fun e => by have := hne _ e.symm; omega)
    refine ⟨⟨v, hv', hr.kept hg ?_⟩, hb.grown hg hb.size (fun k e => by have := hne k e; omega), Nat.le_trans hs hg.size⟩
    rcases hr.2 with ⟨rfl, _⟩ | ⟨g, cap, cur, rfl, _, hgb, _⟩
    · exact .inl rfl
    · refine .inr fun e' => ?_
      obtain ⟨o, ho, hc⟩ := (hrow g (by simpa [Value.ownBlock] using e'.symm)).2
      rw [hgb] at ho; cases ho; cases hc
  case hIb =>
    rintro pre A B ⟨⟨v, hv, hr⟩, hb, hs⟩ hbb
    exact ⟨⟨v, (hbb.block _ hv.lt).trans hv, own_by hr (fun k _ hk => hbb.block k hk)⟩, hb.trans (hbb.mono hb.size), Nat.le_trans hs hbb.size⟩
  case hIc =>
    rintro pre A u ⟨⟨v, hv, hr⟩, hb, hs⟩
    exact ⟨⟨v, hv.other (by omega) u, own_by hr (fun k hk _ => Below.heap_setCell A ⟨w.heap.size + 1, 0, none⟩ u k (by show k ≠ w.heap.size + 1; omega))⟩, hb.setCell (p := ⟨w.heap.size + 1, 0, none⟩) (by show w.heap.size ≤ w.heap.size + 1; omega) u, by simpa [World.setCell] using hs⟩
  case assign =>
    intro l x W K hK
    gi_wp2
    exact hK
  case body =>
    rintro l pre x W hl ⟨⟨v, hv, hrow⟩, hB, hs⟩ hpre
    have hc := hv.cell
    have hf := hv.frozen
    have hplen : (pre.foldl stepB []).length ≤ s.size + 1 := by
      have h1 := fold_len pre []
      have h2 := pieces_len s
      have h3 := hpre.length_le
      simp at h1 h3
      omega
    have hstep : (pre ++ [x]).foldl stepB [] = stepB (pre.foldl stepB []) x := by rw [List.foldl_append]; rfl
    have HP := Lib.hid hstep
    clear hstep
    have hx0 : (x.toList == []) = x.toList.isEmpty := by cases x.toList <;> rfl
    cases c1 : x.toList.isEmpty
    · rw [c1] at hx0
      cases c2 : x.toList == [46]
      · cases c3 : x.toList == [46, 46]
        · have hst : stepB (pre.foldl stepB []) x = pre.foldl stepB [] ++ [x] := by
            unfold stepB
            rw [if_neg (by rw [hx0, c2]; simp), if_neg (by rw [c3]; simp)]
          rw [hst] at HP
          clear hst hx0
          have hmx : (1099511627776 : Nat) + 2 ≤ maxLen := by decide
          have hob := fun k (hk : v.ownBlock = some k) => own_blk hrow hk
          gi_wp2_with (gi_at_builtin; refine wpListIn_append_own _ rfl _ _ 22 rfl (w.heap.size + 4) 9 i0 (.string ⟨#[]⟩) 1 16 Tryz.underlying22 hi hz0 hz1 hz2 rfl (by decide) _ _ _ rfl (hrow.alloc _) ⟨W.heap.size, 0, none⟩ 1 1 [.string x] rfl rfl (cell_one_new _ _ _) (by simp [Value.oneCell']) (by omega) (by omega) (by simp; omega) ?_; intro v' w1 hown' hgrow0 _; have hgrow : (W.alloc (.cells #[.string x] 9)).grownBy w1 v.ownBlock := hgrow0; clear hgrow0; obtain ⟨g', cap', rfl⟩ := ownsRow_succ hown'; have hv1 : Boxed w1 w.heap.size 22 v := (hv.alloc _).kept hgrow (fun e => by have := hob _ e.symm; omega); have hc1 := hv1.cell; have hf1 := hv1.frozen)
          have hk1 : ∀ k, k < W.heap.size → (∀ j, v.ownBlock = some j → k ≠ j) → w1.heap[k]? = W.heap[k]? := fun k hk hne =>
            (hgrow.block k (by simp; omega) (fun e => hne k e.symm rfl)).trans (Below.heap_alloc W _ k hk)
          have hsz1 : W.heap.size + 1 ≤ w1.heap.size := by have := hgrow.size; simpa using this
          refine ⟨?_, ?_, ⟨_, hv1.set _, ?_⟩, ?_, ?_⟩
          · refine (((KeepsOthers.alloc W _).trans (KeepsOthers.of_grownBy hgrow fun j o ej hj => ?_)).trans (KeepsOthers.setCell _ _ _)).from _
            rcases (hrow.alloc _).2 with ⟨rfl, _⟩ | ⟨g, cap, cur, rfl, _, hgb, _⟩
            · simp [Value.ownBlock] at ej
            · obtain rfl : g = j := by simpa [Value.ownBlock] using ej
              rw [hgb] at hj
              cases hj
              rfl
          · intro k hka hkb
            rw [Below.heap_setCell _ _ _ k (by show k ≠ w.heap.size; omega)]
            exact hk1 k (by omega) (fun j hj => by have := hob j hj; omega)
          · rw [HP.out, List.length_append, List.map_append]
            exact own_by hown' (fun k hk _ => Below.heap_setCell _ _ _ k (by show k ≠ w.heap.size; omega))
          · refine Below.setCell (p := ⟨w.heap.size, 0, none⟩) ?_ (Nat.le_refl _) _
            exact (hB.alloc (by omega) _).grown hgrow (by simp; omega) (fun k e => by have := hob k e; omega)
          · have : (w1.setCell ⟨w.heap.size, 0, none⟩ (.slice (some ⟨g', 0, none⟩) ((pre.foldl stepB []).length + 1) cap')).heap.size = w1.heap.size := by simp [World.setCell]
            rw [this]
            omega
        · have hst : stepB (pre.foldl stepB []) x = (pre.foldl stepB []).dropLast := by
            unfold stepB
            rw [if_neg (by rw [hx0, c2]; simp), if_pos c3]
          rw [hst] at HP
          clear hst hx0
          obtain ⟨A, c, rfl, hle⟩ := own_form hrow
          generalize hL : pre.foldl stepB [] = L at *
          have hmx : max ((L.length : Int) - 1) 0 = ((L.length - 1 : Nat) : Int) := by omega
          have g1 : (L.length - 1 : Nat) ≤ c := by omega
          have hg2 := own_take hrow (k := L.length - 1) (by omega) rfl
          gi_wp2
          refine ⟨(KeepsOthers.setCell _ _ _).from _, fun k hka hkb => Below.heap_setCell _ _ _ k (by show k ≠ w.heap.size; omega), ⟨_, hv.set _, ?_⟩, hB.setCell (p := ⟨w.heap.size, 0, none⟩) (Nat.le_refl _) _, by simpa [World.setCell] using hs⟩
          rw [HP.out, List.length_dropLast, List.dropLast_eq_take, List.map_take]
          exact own_by hg2 (fun k hk _ => Below.heap_setCell _ _ _ k (by show k ≠ w.heap.size; omega))
      · have hst : stepB (pre.foldl stepB []) x = pre.foldl stepB [] := by
          unfold stepB
          rw [if_pos (.inr c2)]
        rw [hst] at HP
        clear hst hx0
        gi_wp2
        exact ⟨KeepsFrom.refl _ _, fun _ _ _ => rfl, ⟨v, hv, by rw [HP.out]; exact hrow⟩, hB, hs⟩
    · rw [c1] at hx0
      have hst : stepB (pre.foldl stepB []) x = pre.foldl stepB [] := by
        unfold stepB
        rw [if_pos (.inl hx0)]
      rw [hst] at HP
      clear hst hx0
      gi_wp2
      exact ⟨KeepsFrom.refl _ _, fun _ _ _ => rfl, ⟨v, hv, by rw [HP.out]; exact hrow⟩, hB, hs⟩
  case done =>
    rintro D W hD ⟨⟨v, hv, hrow⟩, hB, hs⟩ hK
    have hc := hv.cell
    gi_wp2
    refine ⟨by simp, .inl ⟨_, _, rfl, run_takeDeferred hK, ?_⟩⟩
    exact ⟨_, results_tmp rfl _ _ _, v, rfl, own_weak (ownsRow_putObj hrow _ hK rfl) (by omega), hB.trans (belowK_b (w := W0) (by omega) W D _ _ (by omega) hK rfl rfl)⟩
end Go.Proofs.YtdfddiehiiaepaaGreatDoor.Ext

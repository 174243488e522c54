/- Proved: brace.Expand's call: the words that one makes, or ErrCount where they are too many. Conditions: at most 10 to the 9 items; MaxLen holds a number. -/
import Derived.Test.YtciflnnagkdjiaaDoorVsBrTop
set_option linter.unusedVariables false
set_option linter.unusedSimpArgs false
namespace Go.Proofs.YtciflnnagkdjiaaDoor.Ext
open Go.RowKit Go.Proofs.YtciflnnagkdjiaaDoorW.PrintWords
/-- The box of what came in, and the two results' cells. -/
structure ResC (w W : World) (v0 v1 v2 : Value) : Prop where
  b0 : W.heap[w.heap.size]? = some (.cells #[v0] 28 (0, 0))
  b1 : W.heap[w.heap.size + 1]? = some (.cells #[v1] 29 (0, 0))
  b2 : W.heap[w.heap.size + 1 + 1]? = some (.cells #[v2] 30 (0, 0))
  bel : Below w.heap.size w W
section
variable {w W W1 : World} {v0 v1 v2 : Value}
theorem ResC.next (h : ResC w W v0 v1 v2) (hb : Below W.heap.size W W1) : ResC w W1 v0 v1 v2 :=
  ⟨(hb.block _ (blk_lt h.b0)).trans h.b0, (hb.block _ (blk_lt h.b1)).trans h.b1, (hb.block _ (blk_lt h.b2)).trans h.b2, below_step h.bel hb⟩
/-- Another row grows. -/
theorem ResC.grown {ob : Option Nat} (h : ResC w W v0 v1 v2) (hg : W.grownBy W1 ob) (hb : Below w.heap.size w W1) (h0 : some w.heap.size ≠ ob) (h1 : some (w.heap.size + 1) ≠ ob) (h2 : some (w.heap.size + 1 + 1) ≠ ob) : ResC w W1 v0 v1 v2 :=
  ⟨(hg.block _ (blk_lt h.b0) h0).trans h.b0, (hg.block _ (blk_lt h.b1) h1).trans h.b1, (hg.block _ (blk_lt h.b2) h2).trans h.b2, hb⟩
theorem ResC.c0 (h : ResC w W v0 v1 v2) : W.cell? ⟨w.heap.size, 0, none⟩ = some v0 := blk_cell h.b0 0
theorem ResC.c1 (h : ResC w W v0 v1 v2) : W.cell? ⟨w.heap.size + 1, 0, none⟩ = some v1 := blk_cell h.b1 0
theorem ResC.c2 (h : ResC w W v0 v1 v2) : W.cell? ⟨w.heap.size + 1 + 1, 0, none⟩ = some v2 := blk_cell h.b2 0
theorem ResC.f1 (h : ResC w W v0 v1 v2) : W.frozen? ⟨w.heap.size + 1, 0, none⟩ = false := blk_frozen h.b1 0
theorem ResC.f2 (h : ResC w W v0 v1 v2) : W.frozen? ⟨w.heap.size + 1 + 1, 0, none⟩ = false := blk_frozen h.b2 0
theorem ResC.set1 (h : ResC w W v0 v1 v2) (u : Value) : ResC w (W.setCell ⟨w.heap.size + 1, 0, none⟩ u) v0 u v2 :=
  ⟨blk_far h.b0 (by simp) u, blk_set h.b1 0 u, blk_far h.b2 (by simp) u, below_set h.bel (Nat.le_succ _)⟩
theorem ResC.set2 (h : ResC w W v0 v1 v2) (u : Value) : ResC w (W.setCell ⟨w.heap.size + 1 + 1, 0, none⟩ u) v0 v1 u :=
  ⟨blk_far h.b0 (by simp; omega) u, blk_far h.b1 (by simp) u, blk_set h.b2 0 u, below_set h.bel (Nat.le_succ_of_le (Nat.le_succ _))⟩
end
theorem R_lit1 {W : World} {base : Nat} {p : PartS} (hb : base ≤ W.heap.size) : Kd.R kP 26 (W.alloc (.cells (encP p).toArray 26)) base (fun k => W.heap.size ≤ k) (.slice (some ⟨W.heap.size, 0, none⟩) 1 1) [p] := by
  refine ⟨fun k hk => ?_, encP p, ?_, ?_⟩
  · have : W.heap.size = k := by simpa [Value.ownBlock] using hk
    omega
  · have h2 := World.ownsRow_lit (base := base) (e := 26) (size := 10) W (encP p).toArray 1 hb (by decide) rfl
    have h3 : (W.alloc (.cells (encP p).toArray 26)).ownsRow base 26 10 (.slice (some ⟨W.heap.size, 0, none⟩) 1 1) 1 (encP p) := by simpa using h2
    exact h3
  · refine ⟨rfl, fun j q hj => ?_⟩
    cases j with
    | zero =>
      have : p = q := by simpa using hj
      subst this
      exact rfl
    | succ j => simp at hj
abbrev kW : Kd (List PartS) := Kd.slice 26 kP
theorem R_litW {W : World} {base : Nat} {v : Value} {xs : List PartS} (h : Kd.R kP 26 W base (fun _ => True) v xs) (hb : base ≤ W.heap.size) : Kd.R kW 28 (W.alloc (.cells #[v] 28)) base (fun _ => True) (.slice (some ⟨W.heap.size, 0, none⟩) 1 1) [xs] := by
  refine ⟨fun _ _ => trivial, [v], ?_, ?_⟩
  · have h2 := World.ownsRow_lit (base := base) (e := 28) (size := 1) W #[v] 1 hb (by decide) rfl
    have h3 : (W.alloc (.cells #[v] 28)).ownsRow base 28 1 (.slice (some ⟨W.heap.size, 0, none⟩) 1 1) 1 [v] := by simpa using h2
    exact h3
  · refine ⟨rfl, fun j q hj => ?_⟩
    cases j with
    | zero =>
      have : xs = q := by simpa using hj
      subst this
      refine ⟨v, rfl, Kd.R_alloc (Kd.R_mono (Kd.R_bound h) (fun k hk => ⟨trivial, fun he => ?_⟩)) _⟩
      have h4 : k = W.heap.size := by simpa [Value.ownBlock] using he
      have := hk.2.2.1
      omega
    | succ j => simp at hj
theorem infoW : (Tryd.prog.info? 28).map (fun i => (i.zero, i.size, i.bytes)) = some (some (.agg #[.slice none 0 0]), 1, 24) := by kernel_rfl
theorem W_set {w : World} {base g t : Nat} {v : Value} {xs : List (List PartS)} {cs : Array Value} (h : Kd.R kW 28 w base (fun _ => True) v xs) (hb : w.heap[g]? = some (.cells cs t (0, 0))) (h1 : t ≠ 28) (h2 : t ≠ 26) (u : Value) : Kd.R kW 28 (w.setCell ⟨g, 0, none⟩ u) base (fun _ => True) v xs :=
  Kd.R_set h hb (fun q hq => by
    rcases List.mem_cons.1 hq with rfl | hq
    · exact fun e => h1 e.symm
    · have : q = 26 := by simpa [kW, Kd.slice, kP, encKd] using hq
      rw [this]
      exact fun e => h2 e.symm) 0 u
theorem RRi_set {W : World} {base g t : Nat} {v : Value} {L : List (List ItemS)} {cs : Array Value} (h : RRi W base v L) (hb : W.heap[g]? = some (.cells cs t (0, 0))) (u : Value) (h1 : t ≠ 53 := by decide) (h2 : t ≠ 70 := by decide) (h3 : t ≠ 26 := by decide) : RRi (W.setCell ⟨g, 0, none⟩ u) base v L := by
  obtain ⟨rows, h4, h5, h6⟩ := h
  have hne : ∀ k, v.ownBlock = some k → k ≠ g := fun k hk he => by
    obtain ⟨cells, hc⟩ := Kd.R_typed h4 k hk
    subst he
    rw [hb] at hc
    injection hc with hc
    injection hc with _ hc
    exact h1 hc
  refine ⟨rows, ?_, h5, fun j xs c hj hc => ?_⟩
  · obtain ⟨h0, inner, ho, hr⟩ := h4
    exact ⟨h0, inner, own_setCell ho (fun e => by
      have e2 := e.symm
      exact hne _ e2 rfl) u, hr.imp_ (fun _ _ hp => hp)⟩
  · obtain ⟨A', cap, i1, i2, i3⟩ := h6 j xs c hj hc
    refine ⟨A', cap, i1, i2, C_kept i3.c (fun x cs hx => ?_) (fun hp a ha => ?_), fun hp a ha => ?_⟩
    · cases x with
      | oct c => exact hx
      | part p =>
        obtain ⟨b, j1, j2⟩ := hx
        exact ⟨b, j1, blk_far j2 (fun e => by
          have e3 : b = g := e
          subst e3
          rw [hb] at j2
          injection j2 with j2
          injection j2 with _ j2
          exact h3 j2) u⟩
    · obtain ⟨cells, hc⟩ := i3.ty hp a ha
      exact Below.heap_setCell _ _ _ _ (fun e => by
        have e3 : a.block = g := e
        rw [e3, hb] at hc
        injection hc with hc
        injection hc with _ hc
        exact h2 hc)
    · obtain ⟨cells, hc⟩ := i3.ty hp a ha
      exact ⟨cells, blk_far hc (fun e => by
        have e3 : a.block = g := e
        rw [e3, hb] at hc
        injection hc with hc
        injection hc with _ hc
        exact h2 hc) u⟩
theorem RRi_grown2 {W W1 : World} {base b2 : Nat} {v u : Value} {L : List (List ItemS)} {dn : List (List PartS)} (h : RRi W base v L) (hg : W.grownBy W1 u.ownBlock) (ho : Kd.R kW 28 W b2 (fun _ => True) u dn) : RRi W1 base v L := by
  obtain ⟨rows, h4, h5, h6⟩ := h
  have hty := Kd.R_typed ho
  refine ⟨rows, ?_, h5, fun j xs c hj hc => ?_⟩
  · have hlt := Kd.R_lt h4
    have hty4 := Kd.R_typed h4
    obtain ⟨h0, inner, hown, hr⟩ := h4
    exact ⟨h0, inner, own_move hown (fun k hk => hg.block k (hlt k hk) (by
      obtain ⟨cells, hc⟩ := hty4 k hk
      exact other_type hc hty (by decide))), hr.imp_ (fun _ _ hp => hp)⟩
  · obtain ⟨A', cap, i1, i2, i3⟩ := h6 j xs c hj hc
    exact ⟨A', cap, i1, i2, i3.grown (fun w w1 row x cs => kI_grown (by decide) w w1 row x cs) (by decide) hg hty⟩
set_option maxHeartbeats 8000000 in
set_option maxRecDepth 100000 in
theorem brexpand_calls (k : Nat) (A : Option Addr) (c : Nat) (ps : List PartS) (r : Option (List (List PartS))) (w : World) (hmx : MX w) (hr : Kd.C kP w A ps.length ps) (hc : ps.length ≤ c) (hl : (itemsP ps).length ≤ 1000000000) (he : expandW k ps = some r) :
    Calls Tryd.prog 8 #[.agg #[.slice A ps.length c]] w fun e w' => WordsSay r w.heap.size e w' ∧ Below w.heap.size w w' := by
  have hmf : ∀ (fn : Fn) (first cap : Array Value) (w : World), (Instr.makeFunc fn first cap).run Tryd.prog w = .ok (.func fn first cap) w := fun _ _ _ _ => rfl
  have HH := Lib.hid (fun w hm hr => has_calls A c ps w hm hr hc hl)
  have HI := Lib.hid (fun w hr => items_calls A c ps w hr hc (by omega))
  have HR := Lib.hid hr
  have HMX := Lib.hid hmx
  have HL := Lib.hid hl
  clear hr hmx hl
  have hb1 := (Below.refl _ w).alloc (Nat.le_refl _) (.cells #[.slice A ps.length c] 28)
  have h0 := heap_alloc_new w (.cells #[.slice A ps.length c] 28)
  have h1 := heap_alloc_new (w.alloc (.cells #[.slice A ps.length c] 28)) (.cells #[.slice none 0 0] 29)
  rw [alloc_size] at h1
  have h2 := heap_alloc_new ((w.alloc (.cells #[.slice A ps.length c] 28)).alloc (.cells #[.slice none 0 0] 29)) (.cells #[.int .i64 0] 30)
  rw [alloc_size, alloc_size] at h2
  have hb2 := (Below.refl _ (w.alloc (.cells #[.slice A ps.length c] 28))).alloc (Nat.le_refl _) (.cells #[.slice none 0 0] 29)
  have hb3 := (Below.refl _ ((w.alloc (.cells #[.slice A ps.length c] 28)).alloc (.cells #[.slice none 0 0] 29))).alloc (Nat.le_refl _) (.cells #[.int .i64 0] 30)
  have HRC := Lib.hid (show ResC w (((w.alloc (.cells #[.slice A ps.length c] 28)).alloc (.cells #[.slice none 0 0] 29)).alloc (.cells #[.int .i64 0] 30)) (.slice A ps.length c) (.slice none 0 0) (.int .i64 0) from ⟨(hb3.block _ (Nat.lt_of_lt_of_le (blk_lt h0) hb2.size)).trans ((hb2.block _ (blk_lt h0)).trans h0), (hb3.block _ (blk_lt h1)).trans h1, h2, below_step hb1 (below_step hb2 hb3)⟩)
  clear h0 h1 h2 hb1 hb2 hb3
  unfold expandW at he
  go_enter_defers Tryd.func8, Tryd.ntmps8
  go_wp2_with fail
  refine (HH.out _ (HMX.out.below HRC.out.bel) (Kd.C_below HR.out HRC.out.bel)).mono ?_
  rintro e w1 ⟨rfl, hb1⟩
  have HRC1 := Lib.hid (HRC.out.next hb1)
  clear hb1
  cases hF : (foundF spanS (itemsP ps)).isSome with
  | false =>
    rw [hF, if_neg (by decide)] at he
    obtain rfl := Option.some.inj he
    clear he
    have c0 := HRC1.out.c0
    go_wp2_with fail
    refine (HI.out _ (Kd.C_below HR.out HRC1.out.bel)).mono ?_
    rintro e w2 ⟨v, rfl, hR2, hb2⟩
    obtain ⟨A2, c2, hv, hc2, hC2⟩ := Kd.R_reads hR2
    subst hv
    have hci : CI w2 A2 (itemsP ps) := ⟨hC2, fun hp a ha => by
      subst ha
      obtain ⟨g, cap, he, _, _, cells, hc⟩ := Kd.R_form hR2 hp
      injection he with he
      injection he with he
      subst he
      exact ⟨cells, hc⟩⟩
    have HW := Lib.hid (word_calls A2 c2 (itemsP ps) w2 hci hc2 (by have := HL.out; omega) (fun p hp => items_ok _ hp p rfl))
    have HRC2 := Lib.hid (HRC1.out.next hb2)
    clear hR2 hC2 hci hb2 c0
    go_wp2_with fail
    refine HW.out.mono ?_
    rintro e w3 ⟨vp, rfl, hR3, hb3⟩
    obtain ⟨A3, c3, hv, hc3, _⟩ := Kd.R_reads hR3
    subst hv
    have HRC3 := Lib.hid (HRC2.out.next hb3)
    have HR3 := Lib.hid (Kd.R_lower hR3 HRC2.out.bel.size)
    have hbl := (Below.refl _ w3).alloc (Nat.le_refl _) (.cells #[.slice A3 (wordP (itemsP ps)).length c3] 28)
    have HRC4 := Lib.hid (HRC3.out.next hbl)
    clear hR3 hb3 hbl
    have c1 := HRC4.out.c1
    have f1 := HRC4.out.f1
    have c2 := (HRC4.out.set1 (.slice (some ⟨w3.heap.size, 0, none⟩) 1 1)).c2
    have f2 := (HRC4.out.set1 (.slice (some ⟨w3.heap.size, 0, none⟩) 1 1)).f2
    go_wp2_with fail
    have HRC9 := Lib.hid ((HRC4.out.set1 (.slice (some ⟨w3.heap.size, 0, none⟩) 1 1)).set2 (.int .i64 0))
    have hr9 := W_set (W_set (R_litW HR3.out HRC3.out.bel.size) HRC4.out.b1 (by decide) (by decide) (.slice (some ⟨w3.heap.size, 0, none⟩) 1 1)) (HRC4.out.set1 (.slice (some ⟨w3.heap.size, 0, none⟩) 1 1)).b2 (by decide) (by decide) (.int .i64 0)
    have HR9 := Lib.hid (Kd.R_alloc hr9 (.cells #[] 50))
    clear hr9 c1 f1 c2 f2
    refine leaves_cons (f := 20) (args := #[.pointer (some ⟨w.heap.size + 1, 0, none⟩), .pointer (some ⟨w.heap.size + 1 + 1, 0, none⟩)]) (by simp) (by simp [go_sem]) ?_
    refine (catch_idle ⟨w.heap.size + 1, 0, none⟩ ⟨w.heap.size + 1 + 1, 0, none⟩ _).mono ?_
    rintro e u' w9 ⟨rfl, rfl, rfl⟩
    have HRCX := Lib.hid (HRC9.out.next ((Below.refl _ _).alloc (Nat.le_refl _) (.cells #[] 50)))
    have x1 := HRCX.out.c1
    have x2 := HRCX.out.c2
    simp only [Leaves, settle, results, Tryd.results8]
    simp [go_sem, x1, x2]
    exact ⟨⟨_, rfl, HR9.out⟩, HRCX.out.bel⟩
  | true =>
    rw [hF, if_pos rfl] at he
    have c0 := HRC1.out.c0
    cases hE : expandF spanS k (itemsP ps) with
    | none => rw [hE] at he; cases he
    | some t =>
      rw [hE] at he
      go_wp2_with fail
      refine (HI.out _ (Kd.C_below HR.out HRC1.out.bel)).mono ?_
      rintro e w2 ⟨v, rfl, hR2, hb2⟩
      obtain ⟨A2, c2, hv, hc2, hC2⟩ := Kd.R_reads hR2
      subst hv
      have hci : CI w2 A2 (itemsP ps) := ⟨hC2, fun hp a ha => by
        subst ha
        obtain ⟨g, cap, he, _, _, cells, hc⟩ := Kd.R_form hR2 hp
        injection he with he
        injection he with he
        subst he
        exact ⟨cells, hc⟩⟩
      have HRC2 := Lib.hid (HRC1.out.next hb2)
      have HX := Lib.hid (expand_calls spanS spanS_ok spanS_fine k A2 c2 (itemsP ps) t w2 (HMX.out.below HRC2.out.bel) hci hc2 HL.out hE)
      have HHE := Lib.hid hE
      clear hR2 hC2 hci hb2 c0 hE hF
      go_wp2_with fail
      refine HX.out.mono ?_
      rintro e w3 ⟨hs, hb3⟩
      have HRC3 := Lib.hid (HRC2.out.next hb3)
      have hw3 := HRC3.out.bel.size
      clear hb3
      cases t with
      | none =>
        obtain rfl : e = _ := hs
        have hrn : r = none := (Option.some.inj he).symm
        subst hrn
        go_wp2_with fail
        refine leaves_cons (f := 20) (args := #[.pointer (some ⟨w.heap.size + 1, 0, none⟩), .pointer (some ⟨w.heap.size + 1 + 1, 0, none⟩)]) (by simp) (by simp [go_sem]) ?_
        refine (catch_panicking ⟨w.heap.size + 1, 0, none⟩ ⟨w.heap.size + 1 + 1, 0, none⟩ _ _ [] _ HRC3.out.c1 HRC3.out.f1 HRC3.out.c2 HRC3.out.f2 (by simp) (blk_lt HRC3.out.b1) (blk_lt HRC3.out.b2)).mono ?_
        rintro e u' w9 ⟨rfl, rfl, rfl⟩
        have HRCX := Lib.hid (((HRC3.out.next ((Below.refl _ _).alloc (Nat.le_refl _) (.cells #[] 50))).set1 (.slice none 0 0)).set2 (.int .i64 3))
        have x1 := HRCX.out.c1
        have x2 := HRCX.out.c2
        simp [Leaves, settle, results, Tryd.results8, go_sem, x1, x2]
        exact ⟨rfl, HRCX.out.bel⟩
      | some L =>
        obtain ⟨vL, rfl, hRL⟩ := hs
        have hrn : r = some (L.map fun l => orQuoted (wordP l)) := (Option.some.inj he).symm
        subst hrn
        have hLm := hRL.max
        have hL256 := expand_le HHE.out
        have hLb := expand_bound spanS_fine k _ L HHE.out
        have hLo := expand_ok k _ L HHE.out items_ok
        obtain ⟨AL, cL, rfl, hcL⟩ := hRL.slice
        have HRL := Lib.hid hRL
        have HLB := Lib.hid hLb
        have HLO := Lib.hid hLo
        clear hRL hLb hLo he
        go_wp2_with fail
        go_loopw [19] (fun j wr => ∃ (m : Nat) (v : Value), m ≤ L.length ∧ j = .int .i64 m ∧ ResC w wr (.slice A ps.length c) v (.int .i64 0) ∧ Kd.R kW 28 wr w3.heap.size (fun _ => True) v ((L.take m).map fun l => orQuoted (wordP l)) ∧ RRi wr w2.heap.size (.slice AL L.length cL) L ∧ w3.heap.size ≤ wr.heap.size) (fun j _ => L.length - (intOf j).toNat)
        case atStart => exact ⟨0, .slice none 0 0, Nat.zero_le _, rfl, HRC3.out, Kd.R_nil _ _ _ _ _, HRL.out, Nat.le_refl _⟩
        case round =>
          obtain ⟨m, v, hm, rfl, hRC, hRo, hRLm, hbs⟩ := hrel
          have HBS := Lib.hid hbs
          obtain ⟨Ao, co, hv, hco, _⟩ := Kd.R_reads hRo
          subst hv
          have hdl : ((L.take m).map fun l => orQuoted (wordP l)).length = m := by rw [List.length_map, List.length_take]; omega
          rw [hdl] at hRC hRo hco
          have HRC := Lib.hid hRC
          have HO := Lib.hid hRo
          have HRLm := Lib.hid hRLm
          clear hRC hRo hRLm
          by_cases hlt : m < L.length
          · obtain ⟨ad, Ax, cx, hA, y0, hcx, hCx⟩ := RRg.at HRLm.out m (List.getElem?_eq_getElem hlt)
            have htm : (L.take (m + 1)).map (fun l => orQuoted (wordP l)) = (L.take m).map (fun l => orQuoted (wordP l)) ++ [orQuoted (wordP L[m])] := by
              rw [← List.take_append_getElem hlt, List.map_append, List.map_singleton]
            have hxl := HLB.out _ (List.getElem_mem hlt)
            have hxo := HLO.out _ (List.getElem_mem hlt)
            generalize L[m] = x at *
            have HW := Lib.hid (word_calls Ax cx x wr hCx hcx (by have := HL.out; omega) (fun p hp => hxo _ hp p rfl))
            generalize ((L.take m).map fun l => orQuoted (wordP l)) = dn at *
            subst hA
            have HTM := Lib.hid htm
            have HDL := Lib.hid hdl
            clear htm hCx hxl hxo hdl
            go_wp2_with fail
            refine HW.out.mono ?_
            rintro e w6 ⟨vp, rfl, hR6, hb6⟩
            obtain ⟨A6, c6, hv, hc6, _⟩ := Kd.R_reads hR6
            subst hv
            by_cases hz : (wordP x).length = 0
            · have hoq : orQuoted (wordP x) = [textP ⟨#[]⟩ true] := if_pos hz
              have hb7 := below_step hb6 (below_step ((Below.refl _ w6).alloc (Nat.le_refl _) (.cells #[.slice (some ⟨w6.heap.size + 1, 0, none⟩) 1 1] 28)) ((Below.refl _ (w6.alloc (.cells #[.slice (some ⟨w6.heap.size + 1, 0, none⟩) 1 1] 28))).alloc (Nat.le_refl _) (.cells #[.int .i64 1, .string ⟨#[]⟩, .string ⟨#[]⟩, .string ⟨#[]⟩, .bool true, .slice none 0 0, .slice none 0 0, .slice none 0 0, .slice none 0 0, .int .i64 0] 26)))
              have HRC7 := Lib.hid (HRC.out.next hb7)
              have HB7 := Lib.hid hb7
              have HO7 := Lib.hid (Kd.R_below HO.out hb7)
              have HRL7 := Lib.hid (HRLm.out.below hb7)
              have hl0 := R_lit1 (W := w6.alloc (.cells #[.slice (some ⟨w6.heap.size + 1, 0, none⟩) 1 1] 28)) (base := w3.heap.size) (p := textP ⟨#[]⟩ true) (Nat.le_trans HBS.out (Nat.le_trans hb6.size ((Below.refl _ w6).alloc (Nat.le_refl _) (.cells #[.slice (some ⟨w6.heap.size + 1, 0, none⟩) 1 1] 28)).size))
              rw [alloc_size] at hl0
              have hp6 : Kd.R kP 26 ((w6.alloc (.cells #[.slice (some ⟨w6.heap.size + 1, 0, none⟩) 1 1] 28)).alloc (.cells #[.int .i64 1, .string ⟨#[]⟩, .string ⟨#[]⟩, .string ⟨#[]⟩, .bool true, .slice none 0 0, .slice none 0 0, .slice none 0 0, .slice none 0 0, .int .i64 0] 26)) w3.heap.size (fun k => some k ≠ (Value.slice Ao m co).ownBlock) (.slice (some ⟨w6.heap.size + 1, 0, none⟩) 1 1) [textP ⟨#[]⟩ true] := by
                refine Kd.R_mono hl0 (fun k hk he => ?_)
                have h1 := Kd.R_lt HO.out k he.symm
                have h2 := hb6.size
                have hk2 : w6.heap.size + 1 ≤ k := hk
                omega
              have HPX := Lib.hid (show (kW).M ((w6.alloc (.cells #[.slice (some ⟨w6.heap.size + 1, 0, none⟩) 1 1] 28)).alloc (.cells #[.int .i64 1, .string ⟨#[]⟩, .string ⟨#[]⟩, .string ⟨#[]⟩, .bool true, .slice none 0 0, .slice none 0 0, .slice none 0 0, .slice none 0 0, .int .i64 0] 26)) w3.heap.size (fun k => some k ≠ (Value.slice Ao m co).ownBlock) (orQuoted (wordP x)) [.slice (some ⟨w6.heap.size + 1, 0, none⟩) 1 1] from ⟨_, rfl, by rw [hoq]; exact hp6⟩)
              have c7 := HRC7.out.c1
              clear hb6 hb7 hp6 hoq hl0
              rw [hz]
              go_wp2_with (at_builtin; go_loud (refine Kd.R_append kW (w0 := wr) w3.heap.size rfl (.tmp 32) (.tmp 34) 29 28 (.agg #[.slice none 0 0]) 24 rfl Tryd.underlying29 infoW rfl (by decide) (by decide) _ (dn) (orQuoted (wordP x)) [.slice (some ⟨w6.heap.size + 1, 0, none⟩) 1 1] (fun _ => True) (fun k => some k ≠ (Value.slice Ao m co).ownBlock) rfl ?aX ?aP (fun k hk => ⟨trivial, hk⟩) (fun _ _ => trivial) ?aO ?aB ?aS ?aL ?_))
              case aX => exact (show _ = Value.slice (some ⟨w6.heap.size + 1 + 1, 0, none⟩) 1 1 from rfl).trans (by simp)
              case aP => exact HPX.out
              case aO => exact HO7.out
              case aB => exact HB7.out.mono HBS.out
              case aS => first | exact Nat.le_trans HBS.out HB7.out.size | (have h1 := HBS.out; have h2 := HB7.out.size; simp only [alloc_size] at h2; omega)
              case aL => rw [HDL.out]; omega
              intro v8 w8 hr8 hb8 hg8 _
              obtain ⟨A8, q8, hv8, hl8, _⟩ := Kd.R_reads hr8
              have hlen8 : (dn ++ [orQuoted (wordP x)]).length = m + 1 := by rw [List.length_append, List.length_singleton, HDL.out]
              rw [hlen8] at hv8
              subst hv8
              have hrc8 := HRC7.out.grown hg8 (HRC.out.bel.trans (hb8.mono hw3)) (fun e => by
                have h1 := Kd.R_base HO7.out _ e.symm
                have h2 := blk_lt HRC3.out.b0
                omega) (Kd.R_ne HO7.out HRC7.out.b1 (by decide)) (Kd.R_ne HO7.out HRC7.out.b2 (by decide))
              have c8 := hrc8.c1
              have f8 := hrc8.f1
              have hrc9 := hrc8.set1 (.slice A8 (m + 1) q8)
              have hr9 := W_set hr8 hrc8.b1 (by decide) (by decide) (.slice A8 (m + 1) q8)
              have hrl9 := RRi_set (RRi_grown2 (HRL7.out) hg8 HO7.out) hrc8.b1 (.slice A8 (m + 1) q8)
              have HRC9 := Lib.hid hrc9
              have HR9 := Lib.hid hr9
              have HRL9 := Lib.hid hrl9
              have HS9 := Lib.hid (show w3.heap.size ≤ (w8.setCell ⟨w.heap.size + 1, 0, none⟩ (.slice A8 (m + 1) q8)).heap.size by simpa [World.setCell] using Nat.le_trans HBS.out (Nat.le_trans HB7.out.size hg8.size))
              clear hrc8 hr8 hb8 hg8 hl8 hrc9 hr9 hrl9
              go_wp2_with fail
              go_roundw
              case rel => exact ⟨m + 1, .slice A8 (m + 1) q8, by omega, by go_num, HRC9.out, by rw [HTM.out]; exact HR9.out, HRL9.out, HS9.out⟩
              case measure => simp [intOf]; omega
            · have hne : ((wordP x).length == 0) = false := beq_eq_false_iff_ne.2 hz
              have hoq : orQuoted (wordP x) = wordP x := if_neg hz
              have hb7 := below_step hb6 ((Below.refl _ w6).alloc (Nat.le_refl _) (.cells #[.slice A6 (wordP x).length c6] 28))
              have HRC7 := Lib.hid (HRC.out.next hb7)
              have HB7 := Lib.hid hb7
              have HO7 := Lib.hid (Kd.R_below HO.out hb7)
              have HRL7 := Lib.hid (HRLm.out.below hb7)
              have hp6 : Kd.R kP 26 (w6.alloc (.cells #[.slice A6 (wordP x).length c6] 28)) w3.heap.size (fun k => some k ≠ (Value.slice Ao m co).ownBlock) (.slice A6 (wordP x).length c6) (wordP x) := by
                refine Kd.R_lower (Kd.R_mono (Kd.R_bound (Kd.R_alloc hR6 _)) (fun k hk he => ?_)) HBS.out
                have h1 := Kd.R_lt HO.out k he.symm
                have := hk.2.1
                omega
              have HPX := Lib.hid (show (kW).M (w6.alloc (.cells #[.slice A6 (wordP x).length c6] 28)) w3.heap.size (fun k => some k ≠ (Value.slice Ao m co).ownBlock) (orQuoted (wordP x)) [.slice A6 (wordP x).length c6] from ⟨_, rfl, by rw [hoq]; exact hp6⟩)
              have c7 := HRC7.out.c1
              clear hR6 hb6 hb7 hp6 hoq
              go_wp2_with (at_builtin; go_loud (refine Kd.R_append kW (w0 := wr) w3.heap.size rfl (.tmp 32) (.tmp 34) 29 28 (.agg #[.slice none 0 0]) 24 rfl Tryd.underlying29 infoW rfl (by decide) (by decide) _ (dn) (orQuoted (wordP x)) [.slice A6 (wordP x).length c6] (fun _ => True) (fun k => some k ≠ (Value.slice Ao m co).ownBlock) rfl ?aX ?aP (fun k hk => ⟨trivial, hk⟩) (fun _ _ => trivial) ?aO ?aB ?aS ?aL ?_))
              case aX => simp [Act.eval]
              case aP => exact HPX.out
              case aO => exact HO7.out
              case aB => exact HB7.out.mono HBS.out
              case aS => exact Nat.le_trans HBS.out HB7.out.size
              case aL => rw [HDL.out]; omega
              intro v8 w8 hr8 hb8 hg8 _
              obtain ⟨A8, q8, hv8, hl8, _⟩ := Kd.R_reads hr8
              have hlen8 : (dn ++ [orQuoted (wordP x)]).length = m + 1 := by rw [List.length_append, List.length_singleton, HDL.out]
              rw [hlen8] at hv8
              subst hv8
              have hrc8 := HRC7.out.grown hg8 (HRC.out.bel.trans (hb8.mono hw3)) (fun e => by
                have h1 := Kd.R_base HO7.out _ e.symm
                have h2 := blk_lt HRC3.out.b0
                omega) (Kd.R_ne HO7.out HRC7.out.b1 (by decide)) (Kd.R_ne HO7.out HRC7.out.b2 (by decide))
              have c8 := hrc8.c1
              have f8 := hrc8.f1
              have hrc9 := hrc8.set1 (.slice A8 (m + 1) q8)
              have hr9 := W_set hr8 hrc8.b1 (by decide) (by decide) (.slice A8 (m + 1) q8)
              have hrl9 := RRi_set (RRi_grown2 (HRL7.out) hg8 HO7.out) hrc8.b1 (.slice A8 (m + 1) q8)
              have HRC9 := Lib.hid hrc9
              have HR9 := Lib.hid hr9
              have HRL9 := Lib.hid hrl9
              have HS9 := Lib.hid (show w3.heap.size ≤ (w8.setCell ⟨w.heap.size + 1, 0, none⟩ (.slice A8 (m + 1) q8)).heap.size by simpa [World.setCell] using Nat.le_trans HBS.out (Nat.le_trans HB7.out.size hg8.size))
              clear hrc8 hr8 hb8 hg8 hl8 hrc9 hr9 hrl9
              go_wp2_with fail
              go_roundw
              case rel => exact ⟨m + 1, .slice A8 (m + 1) q8, by omega, by go_num, HRC9.out, by rw [HTM.out]; exact HR9.out, HRL9.out, HS9.out⟩
              case measure => simp [intOf]; omega
          · have hme : m = L.length := by omega
            subst hme
            rw [List.take_length] at HO
            have c1 := HRC.out.c1
            have f1 := HRC.out.f1
            have c2 := (HRC.out.set1 (.slice Ao L.length co)).c2
            have f2 := (HRC.out.set1 (.slice Ao L.length co)).f2
            have HRC9 := Lib.hid ((HRC.out.set1 (.slice Ao L.length co)).set2 (.int .i64 0))
            have hr9 := W_set (W_set HO.out HRC.out.b1 (by decide) (by decide) (.slice Ao L.length co)) (HRC.out.set1 (.slice Ao L.length co)).b2 (by decide) (by decide) (.int .i64 0)
            have HR9 := Lib.hid (Kd.R_lower (Kd.R_alloc hr9 (.cells #[] 50)) hw3)
            clear hr9
            go_wp2_with fail
            refine leaves_cons (f := 20) (args := #[.pointer (some ⟨w.heap.size + 1, 0, none⟩), .pointer (some ⟨w.heap.size + 1 + 1, 0, none⟩)]) (by simp) (by simp [go_sem]) ?_
            refine (catch_idle ⟨w.heap.size + 1, 0, none⟩ ⟨w.heap.size + 1 + 1, 0, none⟩ _).mono ?_
            rintro e u' w9 ⟨rfl, rfl, rfl⟩
            have HRCX := Lib.hid (HRC9.out.next ((Below.refl _ _).alloc (Nat.le_refl _) (.cells #[] 50)))
            have x1 := HRCX.out.c1
            have x2 := HRCX.out.c2
            simp only [Leaves, settle, results, Tryd.results8]
            simp [go_sem, x1, x2]
            exact ⟨⟨_, rfl, HR9.out⟩, HRCX.out.bel⟩
end Go.Proofs.YtciflnnagkdjiaaDoor.Ext

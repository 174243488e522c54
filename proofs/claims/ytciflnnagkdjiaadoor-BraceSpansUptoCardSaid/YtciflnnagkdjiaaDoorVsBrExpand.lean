/- Proved: brace.expand's call, by induction on rounds: all words of items, or its panic where they are too many. Conditions: at most 10 to the 9 items; what span tells is known, and short. -/
import Derived.Test.YtciflnnagkdjiaaDoorVsBrExpPure
set_option linter.unusedVariables false
set_option linter.unusedSimpArgs false
namespace Go.Proofs.YtciflnnagkdjiaaDoor.Ext
open Go.RowKit Go.Proofs.YtciflnnagkdjiaaDoorW.PrintWords
/-- What expand tells. -/
def ExpandSay (r : Option (List (List ItemS))) (base : Nat) (e : Ending) (w' : World) : Prop := match r with
  | none => e = .panicked [{ v := .iface 50 (.agg #[]), recovered := false }]
  | some L => ∃ v, e = .returned v ∧ RRi w' base v L
/-- A row of one slice. -/
theorem RRg_one {W : World} {base : Nat} {A : Option Addr} {c : Nat} {l : List ItemS} (h : CI W A l) (hc : l.length ≤ c) (hb : base ≤ W.heap.size) :
    RRi (W.alloc (.cells #[.slice A l.length c] 53)) base (.slice (some ⟨W.heap.size, 0, none⟩) 1 1) [l] := by
  have hB : Below W.heap.size W (W.alloc (.cells #[.slice A l.length c] 53)) := (Below.refl _ W).alloc (Nat.le_refl _) _
  refine ⟨[[.slice A l.length c]], ⟨fun _ _ => trivial, [.slice A l.length c], ?_, ?_⟩, rfl, fun j xs cs hj hcs => ?_⟩
  · have h2 := World.ownsRow_lit (base := base) (e := 53) (size := 1) W #[.slice A l.length c] 1 hb (by decide) (by simp)
    have h3 : (W.alloc (.cells #[.slice A l.length c] 53)).ownsRow base 53 1 (.slice (some ⟨W.heap.size, 0, none⟩) 1 1) 1 [.slice A l.length c] := by simpa using h2
    exact h3
  · refine ⟨rfl, fun j p hj => ?_⟩
    cases j with
    | zero =>
      have : [Value.slice A l.length c] = p := by simpa using hj
      subst this
      exact ⟨rfl, rfl, fun u hu => by rw [List.mem_singleton.1 hu]; rfl⟩
    | succ j => simp at hj
  · cases j with
    | zero =>
      have e1 : l = xs := by simpa using hj
      have e2 : [Value.slice A l.length c] = cs := by simpa using hcs
      subst e1
      subst e2
      exact ⟨A, c, rfl, hc, h.below hB⟩
    | succ j => simp at hj
theorem grown_trans {W W1 W2 : World} {r r1 : Option Nat} (h : W.grownBy W1 r) (h1 : W1.grownBy W2 r1) (hr : r1 = r ∨ ∃ b, r1 = some b ∧ W.heap.size ≤ b) : W.grownBy W2 r :=
  ⟨h1.os.trans h.os, h1.tape.trans h.tape, h1.output.trans h.output, Nat.le_trans h.size h1.size, fun k hk hne => (h1.block k (Nat.lt_of_lt_of_le hk h.size) (by
    rcases hr with rfl | ⟨b, rfl, hb⟩
    · exact hne
    · intro e
      have := Option.some.inj e
      omega)).trans (h.block k hk hne)⟩
theorem hat_trans {r r1 r2 : Option Nat} {n n1 : Nat} (h : r1 = r ∨ ∃ b, r1 = some b ∧ n ≤ b) (h1 : r2 = r1 ∨ ∃ b, r2 = some b ∧ n1 ≤ b) (hn : n ≤ n1) : r2 = r ∨ ∃ b, r2 = some b ∧ n ≤ b := by
  rcases h1 with rfl | ⟨b, rfl, hb⟩
  · exact h
  · exact .inr ⟨b, rfl, by omega⟩
theorem R_empty {α : Type} (d : Kd α) (e : Nat) (w : World) : d.R e (w.alloc (.cells #[] e)) w.heap.size (fun _ => True) (.slice (some ⟨w.heap.size, 0, none⟩) 0 0) [] := by
  refine ⟨fun _ _ => trivial, [], ?_, Reps.none _ _⟩
  have h2 := World.ownsRow_lit (base := w.heap.size) (e := e) (size := d.sz) w #[] 0 (Nat.le_refl _) (by decide) (by simp)
  exact h2
set_option maxHeartbeats 16000000 in
set_option maxRecDepth 100000 in
theorem expand_calls (sp : SpanF) (hsp : SpanOk sp) (hf : SpanFine sp) : ∀ (k : Nat) (A : Option Addr) (c : Nat) (l : List ItemS) (r : Option (List (List ItemS))) (w : World), MX w → CI w A l → l.length ≤ c → l.length ≤ 1000000000 → expandF sp k l = some r →
    Calls Tryd.prog 23 #[.slice A l.length c] w fun e w' => ExpandSay r w.heap.size e w' ∧ Below w.heap.size w w' := by
  intro k
  induction k with
  | zero =>
    intro A c l r w hmx hr hc hl he
    cases he
  | succ k ih =>
    intro A c l r w hmx hr hc hl he
    have HIH := Lib.hid ih
    have HF := Lib.hid (found_calls sp hsp A c l w hmx hr hc (by omega))
    have HR := Lib.hid hr
    have HMX := Lib.hid hmx
    clear ih hr hmx
    rw [expandF] at he
    cases hF : foundF sp l with
    | none =>
      rw [hF] at he
      obtain rfl := Option.some.inj he
      go_enter Tryd.func23, Tryd.ntmps23
      go_wp2_with fail
      refine HF.out.mono ?_
      rintro e w1 ⟨hs, hb1⟩
      rw [hF] at hs
      obtain rfl : e = _ := hs
      have HB := Lib.hid hb1
      clear hb1 hF he
      go_wp2_with fail
      go_ret
      have hB2 := (Below.refl _ w1).alloc (Nat.le_refl _) (.cells #[.slice A l.length c] 53)
      exact ⟨⟨_, rfl, RRg_one (HR.out.below HB.out) hc HB.out.size⟩, below_step HB.out hB2⟩
    | some t =>
      obtain ⟨i, q, n⟩ := t
      rw [hF] at he
      dsimp only at he
      obtain ⟨hin, hq⟩ := foundF_bound hf hF
      have HQ := Lib.hid hq
      have HF0 := Lib.hid hF
      clear hq
      cases hb : expandF sp k (l.drop (i + n + 2)) with
      | none => rw [hb] at he; cases he
      | some t =>
        rw [hb] at he
        have HEB := Lib.hid hb
        go_enter Tryd.func23, Tryd.ntmps23
        go_wp2_with fail
        refine HF.out.mono ?_
        rintro e w1 ⟨hs, hb1⟩
        rw [hF] at hs
        obtain ⟨vq, A1, c1, A2, c2, m, hm, rfl, hRq, hC1, hc1, hC2, hc2, hml⟩ := hs
        subst hm
        have HB1 := Lib.hid hb1
        have HC1 := Lib.hid hC1
        have HRq := Lib.hid hRq
        have hdl : (l.drop (i + n + 2)).length = l.length - (i + n + 2) := List.length_drop
        have HT := Lib.hid (HIH.out A2 c2 (l.drop (i + n + 2)) t w1 (HMX.out.below HB1.out) hC2 (by rw [hdl]; exact hc2) (by rw [hdl]; omega) hb)
        rw [hdl] at HT
        clear hb1 hC1 hRq hC2 hb hF hdl
        cases t with
        | none =>
          obtain rfl := Option.some.inj he
          clear he
          go_wp2_with fail
          refine HT.out.mono ?_
          rintro e w2 ⟨hs, hb2⟩
          obtain rfl : e = _ := hs
          have HB2 := Lib.hid (below_step HB1.out hb2)
          clear hb2
          go_wp2_with fail
          exact ⟨rfl, rfl, HB2.out⟩
        | some bh =>
          dsimp only at he
          go_wp2_with fail
          refine HT.out.mono ?_
          rintro e w2 ⟨hs, hb2⟩
          obtain ⟨vb, rfl, hRb⟩ := hs
          have hqm := HRq.out.max
          have hbm := hRb.max
          obtain ⟨Aq, cq, rfl, hcq⟩ := HRq.out.slice
          obtain ⟨Ab, cb, rfl, hcb⟩ := hRb.slice
          have HB2 := Lib.hid (below_step HB1.out hb2)
          have HQ2 := Lib.hid (HRq.out.below hb2)
          have HRb := Lib.hid hRb
          have HHd := Lib.hid (HC1.out.below hb2)
          have HHE := Lib.hid he
          have hw2 := HB2.out.size
          have HBB := Lib.hid (expand_bound hf k _ bh HEB.out)
          clear hb2 hRb HC1 HRq he
          go_wp2_with fail
          go_loopw [8, 31] (fun out j wr => ∃ (m : Nat) (L : List (List ItemS)), m ≤ q.length ∧ j = .int .i64 m ∧ RRi wr w2.heap.size out L ∧ L.length ≤ 256 ∧ outGo (expandF sp k) (l.take i) bh (q.drop m) L = some r ∧ Below w2.heap.size w2 wr) (fun _ j _ => q.length - (intOf j).toNat)
          case atStart => exact ⟨0, [], Nat.zero_le _, rfl, RRg.nil _ _ _ _ _, by simp, HHE.out, Below.refl _ _⟩
          case round =>
            clear HHE
            obtain ⟨m, L, hm, rfl, hRo, hL, hgo, hbr⟩ := hrel
            have HO := Lib.hid hRo
            have HB := Lib.hid hbr
            clear hRo hbr
            by_cases hlt : m < q.length
            · have hdr : q.drop m = q[m] :: q.drop (m + 1) := List.drop_eq_getElem_cons hlt
              rw [hdr, outGo] at hgo
              obtain ⟨ad, Ap, cp, rfl, y0, hcp, hCp⟩ := RRg.at (HQ2.out.below HB.out) m (List.getElem?_eq_getElem hlt)
              have hpl : (q[m]).length ≤ 1000000000 := by
                rcases HQ.out _ (List.getElem_mem hlt) with h | h <;> omega
              generalize q[m] = p at *
              clear hdr
              cases hx : expandF sp k p with
              | none => rw [hx] at hgo; cases hgo
              | some t =>
                rw [hx] at hgo
                have HXP := Lib.hid (HIH.out Ap cp p t wr (HMX.out.below (below_step HB2.out HB.out)) hCp hcp hpl hx)
                cases t with
                | none =>
                  obtain rfl := Option.some.inj hgo
                  clear hgo hCp hx
                  go_wp2_with fail
                  refine HXP.out.mono ?_
                  rintro e w4 ⟨hs, hb4⟩
                  obtain rfl : e = _ := hs
                  have HB4 := Lib.hid (below_step HB2.out (below_step HB.out hb4))
                  clear hb4
                  go_wp2_with fail
                  exact ⟨rfl, rfl, HB4.out⟩
                | some xs =>
                  have hxb := expand_bound hf k p xs hx
                  have HXB := Lib.hid hxb
                  have HGO := Lib.hid hgo
                  have HHX := Lib.hid hx
                  clear hgo hCp hx hxb
                  go_wp2_with fail
                  refine HXP.out.mono ?_
                  rintro e w4 ⟨⟨vx, rfl, hRx⟩, hb4⟩
                  have hxm := hRx.max
                  have hxo := hRx.base_
                  obtain ⟨Ax, cx, rfl, hcx⟩ := hRx.slice
                  have HXO := Lib.hid (show ∀ k, (Value.slice Ax xs.length cx).ownBlock = some k → some k ≠ u8.ownBlock from fun k hk he => by
                    have h1 := hxo k hk
                    have h2 := HO.out.lt k he.symm
                    omega)
                  have HO4 := Lib.hid (HO.out.below hb4)
                  have HTY := Lib.hid HO4.out.typed
                  have HB4 := Lib.hid (below_step HB.out hb4)
                  have HRx := Lib.hid hRx
                  clear hRx hb4 hxo
                  obtain ⟨ob4, hob4⟩ : ∃ o, o = u8.ownBlock := ⟨_, rfl⟩
                  rw [← hob4] at HXO HTY
                  have HOB := Lib.hid hob4
                  clear hob4
                  go_wp2_with fail
                  go_loopw [8, 38] (fun out j wi => ∃ (a : Nat) (L1 : List (List ItemS)), a ≤ xs.length ∧ j = .int .i64 a ∧ RRi wi w2.heap.size out L1 ∧ L1.length ≤ 256 ∧ L1 = L ++ rowsOf (l.take i) bh (xs.take a) ∧ Below w2.heap.size w2 wi ∧ w4.grownBy wi ob4 ∧ (out.ownBlock = ob4 ∨ ∃ b, out.ownBlock = some b ∧ w4.heap.size ≤ b)) (fun _ j _ => xs.length - (intOf j).toNat)
                  case atStart => exact ⟨0, L, Nat.zero_le _, rfl, HO4.out, hL, by simp [rowsOf], HB4.out, World.grownBy.refl _ _, .inl HOB.out.symm⟩
                  case round =>
                    clear HO4 HOB
                    obtain ⟨a, L1, ha, rfl, hRo, hL1, hLe, hbr, hg4, hat4⟩ := hrel
                    have HO := Lib.hid hRo
                    have HBM := Lib.hid hbr
                    have HG4 := Lib.hid hg4
                    have HAT4 := Lib.hid hat4
                    clear hRo hbr hg4 hat4
                    by_cases hla : a < xs.length
                    · obtain ⟨adx, Ae, ce, rfl, y1, hce, hCe⟩ := RRg.at (HRx.out.grown kI_stays (by decide) HG4.out HTY.out HXO.out) a (List.getElem?_eq_getElem hla)
                      have hel := HXB.out _ (List.getElem_mem hla)
                      have hta : xs.take (a + 1) = xs.take a ++ [xs[a]] := (List.take_append_getElem hla).symm
                      generalize xs[a] = x at *
                      have HTA := Lib.hid hta
                      have HCe := Lib.hid hCe
                      have HLE := Lib.hid hLe
                      have HTYM := Lib.hid HO.out.typed
                      obtain ⟨obM, hobM⟩ : ∃ o, o = u8.ownBlock := ⟨_, rfl⟩
                      rw [← hobM] at HTYM HAT4
                      have HOBM := Lib.hid hobM
                      clear hta hCe hLe hobM
                      go_wp2_with fail
                      go_loopw [8, 44] (fun out j wj => ∃ (b : Nat) (L2 : List (List ItemS)), b ≤ bh.length ∧ j = .int .i64 b ∧ RRi wj w2.heap.size out L2 ∧ L2.length ≤ 256 ∧ L2 = L1 ++ (bh.take b).map (fun y => l.take i ++ x ++ y) ∧ Below w2.heap.size w2 wj ∧ wr.grownBy wj obM ∧ (out.ownBlock = obM ∨ ∃ b, out.ownBlock = some b ∧ wr.heap.size ≤ b)) (fun _ j _ => bh.length - (intOf j).toNat)
                      case atStart => exact ⟨0, L1, Nat.zero_le _, rfl, HO.out, hL1, by simp, HBM.out, World.grownBy.refl _ _, .inl HOBM.out.symm⟩
                      case round =>
                        obtain ⟨b, L2, hb, rfl, hRo, hL2, hLe, hbj, hgM, hatM⟩ := hrel
                        have HO := Lib.hid hRo
                        have HBJ := Lib.hid hbj
                        have HLE2 := Lib.hid hLe
                        have HCx := Lib.hid (HCe.out.grown kI_stays (by decide) hgM HTYM.out)
                        have HGM := Lib.hid hgM
                        have HATM := Lib.hid hatM
                        obtain ⟨Ao, co, rfl, hco⟩ := hRo.slice
                        clear hRo hbj hLe hgM hatM
                        by_cases hlb : b < bh.length
                        · obtain ⟨ady, Ay, cy, hady, y2, hcy, hCy⟩ := RRg.at (HRb.out.below HBJ.out) b (List.getElem?_eq_getElem hlb)
                          subst hady
                          have hyb := HBB.out _ (List.getElem_mem hlb)
                          have htb : bh.take (b + 1) = bh.take b ++ [bh[b]] := (List.take_append_getElem hlb).symm
                          generalize bh[b] = y at *
                          have HTB := Lib.hid htb
                          have HCy := Lib.hid hCy
                          have HCh := Lib.hid (HHd.out.below HBJ.out)
                          clear htb hCy
                          by_cases h256 : L2.length = 256
                          · have hrn : r = none := by
                              have hg := HGO.out
                              have e1 : (L ++ rowsOf (l.take i) bh xs).length = L.length + xs.length * bh.length := by rw [List.length_append, rowsOf_len]
                              have e2 := h256
                              rw [HLE2.out, HLE.out] at e2
                              simp only [List.length_append, List.length_map, List.length_take, rowsOf_len] at e2
                              rw [Nat.min_eq_left (Nat.le_of_lt hlb), Nat.min_eq_left ha] at e2
                              have e3 : (a + 1) * bh.length ≤ xs.length * bh.length := Nat.mul_le_mul_right _ hla
                              rw [Nat.add_mul, Nat.one_mul] at e3
                              rw [if_neg (by rw [e1]; omega)] at hg
                              exact (Option.some.inj hg).symm
                            subst hrn
                            rw [h256]
                            have HB5 := Lib.hid (below_step HB2.out HBJ.out)
                            go_wp2_with fail
                            exact ⟨rfl, rfl, HB5.out⟩
                          · have hL3 : L2.length < 256 := by omega
                            have hne : ((L2.length : Int) == 256) = false := beq_eq_false_iff_ne.2 (by omega)
                            clear h256
                            have hW := (Below.refl _ wr).alloc (Nat.le_refl _) (.cells #[] 70)
                            have HW := Lib.hid hW
                            have hR0 : (Kd.fixed kI wr).R 70 (wr.alloc (.cells #[] 70)) wr.heap.size (fun _ => True) (.slice (some ⟨wr.heap.size, 0, none⟩) 0 0) [] := R_empty _ _ _
                            have HR0 := Lib.hid hR0
                            have hti : (l.take i).length = i := by rw [List.length_take]; omega
                            have HLEN := Lib.hid (show i ≤ 1000000000 ∧ x.length ≤ 17179869184 ∧ y.length ≤ 17179869184 ∧ (l.take i).length = i from ⟨by omega, by omega, by rw [List.length_drop] at hyb; omega, hti⟩)
                            have hch := HCh.out.c
                            rw [hti] at hch
                            have HCH := Lib.hid hch
                            clear hW hR0 hyb hel hti hch
                            go_wp2_with (at_builtin; go_loud (refine Kd.R_append_rows (Kd.fixed kI wr) (Rr := kI.K wr) (w0 := wr) wr.heap.size rfl (.tmp 53) (.tmp 54) 53 70 (.agg #[(.int .u8 0), (.pointer none)]) 16 rfl Tryd.underlying53 infoI rfl (Nat.succ_pos 1) (by decide) _ [] (l.take i) A1 i c1 (fun _ => True) (fun _ => False) rfl rfl ?aO ?aR (fun _ _ h => h) (fun _ h => h.elim) (fun _ _ => trivial) ?aB ?aS ?aL ?_))
                            case aO => exact HR0.out
                            case aR => exact ReadsRow.imp_ HCH.out HW.out (fun _ _ h => h)
                            case aB => exact HW.out
                            case aS => exact Below.size HW.out
                            case aL => have := HLEN.out; simp; omega
                            intro v5 w5 hr5 hb5 _ _
                            have HR5 := Lib.hid hr5
                            have HB5 := Lib.hid hb5
                            clear hr5 hb5
                            go_wp2_with (at_builtin; go_loud (refine Kd.R_append_rows (Kd.fixed kI wr) (Rr := kI.K wr) (w0 := wr) wr.heap.size rfl (.tmp 57) (.tmp 58) 53 70 (.agg #[(.int .u8 0), (.pointer none)]) 16 rfl Tryd.underlying53 infoI rfl (Nat.succ_pos 1) (by decide) _ (l.take i) x Ae x.length ce (fun _ => True) (fun _ => False) rfl rfl ?aO ?aR (fun _ _ h => h) (fun _ h => h.elim) (fun _ _ => trivial) ?aB ?aS ?aL ?_))
                            case aO => exact HR5.out
                            case aR => exact ReadsRow.imp_ HCx.out.c HB5.out (fun _ _ h => h)
                            case aB => exact HB5.out
                            case aS => exact Below.size HB5.out
                            case aL => have := HLEN.out; rw [this.2.2.2]; omega
                            intro v6 w6 hr6 hb6 _ _
                            have HR6 := Lib.hid hr6
                            have HB6 := Lib.hid hb6
                            clear hr6 hb6
                            go_wp2_with (at_builtin; go_loud (refine Kd.R_append_rows (Kd.fixed kI wr) (Rr := kI.K wr) (w0 := wr) wr.heap.size rfl (.tmp 59) (.tmp 60) 53 70 (.agg #[(.int .u8 0), (.pointer none)]) 16 rfl Tryd.underlying53 infoI rfl (Nat.succ_pos 1) (by decide) _ (l.take i ++ x) y Ay y.length cy (fun _ => True) (fun _ => False) rfl rfl ?aO ?aR (fun _ _ h => h) (fun _ h => h.elim) (fun _ _ => trivial) ?aB ?aS ?aL ?_))
                            case aO => exact HR6.out
                            case aR => exact ReadsRow.imp_ HCy.out.c HB6.out (fun _ _ h => h)
                            case aB => exact HB6.out
                            case aS => exact Below.size HB6.out
                            case aL => have := HLEN.out; rw [List.length_append, this.2.2.2]; omega
                            intro v7 w7 hr7 hb7 _ _
                            have hr7 : (Kd.fixed kI wr).R 70 w7 wr.heap.size (fun _ => True) v7 (l.take i ++ x ++ y) := R_row hr7 (by simp)
                            obtain ⟨row, hrow⟩ : ∃ row, l.take i ++ x ++ y = row := ⟨_, rfl⟩
                            rw [hrow] at hr7
                            have HROW := Lib.hid hrow
                            clear hrow
                            obtain ⟨A9, c9, hv9, hl9, hC9⟩ := Kd.R_reads hr7
                            have hty9 := Kd.R_typed hr7
                            subst hv9
                            have HC9 := Lib.hid (Kd.C_read (d := kI) (dm := Kd.fixed kI wr) rfl (fun x cs h => kI.K_below hb7 h) hC9)
                            have HIN := Lib.hid (show Inner kI 70 w7 row [.slice A9 row.length c9] from ⟨A9, c9, rfl, hl9, HC9.out, fun hp a ha => by
                              subst ha
                              obtain ⟨g, cap, he, _, _, cells, hc⟩ := Kd.R_form hr7 hp
                              injection he with he
                              injection he with he
                              subst he
                              exact ⟨cells, hc⟩⟩)
                            have HO7 := Lib.hid (HO.out.below hb7)
                            have HB7 := Lib.hid hb7
                            clear hr7 hb7 hl9 hC9 hty9
                            go_wp2_with (at_builtin; go_loud (refine RRg_append kI (w0 := w2) w2.heap.size rfl (.tmp 56) (.tmp 62) 55 70 53 kI_stays (by decide) rfl Tryd.underlying55 infoL _ L2 row (.slice A9 row.length c9) rfl ?aX ?aO ?aI ?aB ?aS ?aL ?_))
                            case aX => simp [Act.eval]
                            case aO => exact HO7.out
                            case aI => exact HIN.out
                            case aB => exact below_step HBJ.out HB7.out
                            case aS => exact (below_step HBJ.out HB7.out).size
                            case aL => omega
                            intro v8 w8 hr8 hb8 hg8 hat8
                            have hl4 : L2 ++ [row] = L1 ++ (bh.take (b + 1)).map (fun y => l.take i ++ x ++ y) := by
                              rw [← HROW.out]
                              rw [HTB.out, List.map_append, List.map_singleton, ← List.append_assoc, ← HLE2.out]
                            have hr8 : RRi w8 w2.heap.size v8 (L2 ++ [row]) := by
                              first | exact hr8 | (simpa using hr8)
                            have HR8 := Lib.hid hr8
                            have HB8 := Lib.hid hb8
                            have HL4 := Lib.hid hl4
                            have hg9 := grown_trans HGM.out (grown_trans (grown_of_below HB7.out (Value.slice Ao L2.length co).ownBlock) hg8 (.inl rfl)) HATM.out
                            have HG8 := Lib.hid hg9
                            have HAT8 := Lib.hid (hat_trans HATM.out hat8 (Nat.le_trans HGM.out.size HB7.out.size))
                            have hl5 : (L2 ++ [row]).length ≤ 256 := by simp; omega
                            have HL5 := Lib.hid hl5
                            clear hr8 hb8 hg8 hat8 hl4 hg9 hl5
                            go_wp2_with fail
                            go_roundw
                            case rel => exact ⟨b + 1, L2 ++ [row], by omega, by go_num, HR8.out, HL5.out, HL4.out, HB8.out, HG8.out, HAT8.out⟩
                            case measure => simp [intOf]; omega
                        · have hbe : b = bh.length := by omega
                          subst hbe
                          have hl2 := HLE2.out
                          rw [List.take_length] at hl2
                          have hl3 : L2 = L ++ rowsOf (l.take i) bh (xs.take (a + 1)) := by
                            rw [hl2, HLE.out, HTA.out, rowsOf_app, List.append_assoc]
                            simp [rowsOf]
                          have HL3 := Lib.hid hl3
                          clear hl2 hl3
                          go_wp2_with fail
                          go_roundw
                          case rel => exact ⟨a + 1, L2, by omega, by go_num, HO.out, hL2, HL3.out, HBJ.out, grown_trans HG4.out HGM.out HAT4.out, hat_trans HAT4.out HATM.out HG4.out.size⟩
                          case measure => simp [intOf]; omega
                    · have hae : a = xs.length := by omega
                      subst hae
                      rw [List.take_length] at hLe
                      have hg := HGO.out
                      rw [← hLe, if_pos hL1] at hg
                      have HG2 := Lib.hid hg
                      clear hg
                      go_wp2_with fail
                      go_roundw
                      case rel => exact ⟨m + 1, L1, by omega, by go_num, HO.out, hL1, HG2.out, HBM.out⟩
                      case measure => simp [intOf]; omega
            · have hme : m = q.length := by omega
              subst hme
              rw [List.drop_length, outGo] at hgo
              obtain rfl := Option.some.inj hgo
              clear hgo
              go_wp2_with fail
              go_ret
              exact ⟨⟨_, rfl, HO.out.lower hw2⟩, below_step HB2.out HB.out⟩
end Go.Proofs.YtciflnnagkdjiaaDoor.Ext

/- Proved: texts.every's call makes of each line what the function handed in makes of it, each with a newline; and texts.Rev's. Condition: the text is of at most 10 to the 8 octets. -/
import Derived.Test.YtbckpnioimhgcaaDoorRev
set_option linter.unusedVariables false
namespace Go.Proofs.YtbckpnioimhgcaaDoor.Ext
open Go.RowKit Go.Proofs.YtbckpnioimhgcaaDoorW.PrintWords

theorem part_get (f : ByteArray → ByteArray) (L : List ByteArray) (k : Nat) (h : k < L.length) :
    ((L.take k).map f ++ L.drop k)[k]? = some L[k] := by
  rw [List.getElem?_append_right (by simp; omega)]
  have e : k - ((L.take k).map f).length = 0 := by simp; omega
  rw [e, List.getElem?_drop, Nat.add_zero, List.getElem?_eq_getElem h]
theorem part_set (f : ByteArray → ByteArray) (L : List ByteArray) (k : Nat) (h : k < L.length) :
    ((L.take k).map f ++ L.drop k).set k (f L[k]) = (L.take (k + 1)).map f ++ L.drop (k + 1) := by
  have e : ((L.take k).map f).length = k := by simp; omega
  rw [List.set_append_right _ _ (by omega), e, Nat.sub_self, List.drop_eq_getElem_cons h, List.set_cons_zero, List.take_succ_eq_append_getElem h, List.map_append, List.append_assoc]
  rfl
theorem blk_get2 {W : World} {g t i : Nat} {cs : Array Value} (h : W.heap[g]? = some (.cells cs t (0, 0))) : W.cell? ⟨g, i, none⟩ = cs[i]? := by
  unfold World.cell?
  rw [h]
  rfl
theorem blk_free2 {W : World} {g t i : Nat} {cs : Array Value} (h : W.heap[g]? = some (.cells cs t (0, 0))) : W.frozen? ⟨g, i, none⟩ = false := by
  unfold World.frozen?
  rw [h]
  simp

set_option maxHeartbeats 4000000 in
theorem every_calls (gN : Nat) (lb : Array Value) (f : ByteArray → ByteArray) (s : ByteArray) (k : Nat) (L : List ByteArray) (r : ByteArray) (w : World) (eg : ∀ args w, (callFunc gN args).run Tryd.prog w = .ok (.enter gN args) w)
    (hL : Q.octets_Lines.f k s = some L)
    (hf : ∀ (W : World) (x : ByteArray), x ∈ L → Below w.heap.size w W → Calls Tryd.prog gN (#[.string x] ++ lb) W fun e w' => e = .returned (.string (f x)) ∧ Below W.heap.size W w')
    (hr : texts_ended.f (L.map f) = some r) (hlen : L.length ≤ 1000000000) :
    Calls Tryd.prog 27 #[.string s, .func (.func gN) #[] lb] w fun e w' => e = .returned (.string r) ∧ Below w.heap.size w w' := by
  have HF := Lib.hid hf
  have HR := Lib.hid hr
  have HLL := Lib.hid hL
  have HLEN := Lib.hid hlen
  clear hf hr hL hlen
  go_enter Tryd.func27, Tryd.ntmps27
  go_wp2_with fail
  refine (Q.octets_Lines.calls k s L _ HLL.out).mono ?_
  rintro e w1 ⟨v1, rfl, hR1, hb1⟩
  obtain ⟨A, c, rfl, hlc, q0⟩ := Kd.R_reads hR1
  clear q0
  have HR1 := Lib.hid hR1
  have HB1 := Lib.hid hb1
  have HLC := Lib.hid hlc
  clear hR1 hb1 hlc
  go_wp2_with fail
  go_loopw [12] (fun i wr => ∃ m, m ≤ L.length ∧ i = .int .i64 (m : Nat) ∧ Kd.R Kd.string 9 wr w.heap.size (fun _ => True) (.slice A L.length c) ((L.take m).map f ++ L.drop m) ∧ Below w.heap.size w wr) (fun i _ => L.length - (intOf i).toNat)
  case atStart => exact ⟨0, Nat.zero_le _, rfl, HR1.out, HB1.out⟩
  case round =>
    obtain ⟨m, hm, rfl, hR, hB⟩ := hrel
    have hll : ((L.take m).map f ++ L.drop m).length = L.length := by simp; omega
    by_cases hlt : m < L.length
    · obtain ⟨inner, hown⟩ := Kd.R_own hR
      rw [hll] at hown
      rcases hown.2 with ⟨h0, h1⟩ | ⟨g, cap, cur, hv, hg, hheap, hnc, hcm, hcs, htk⟩
      · omega
      · injection hv with hA _ hc
        subst hA
        subst hc
        have hRC := hR
        obtain ⟨q1, q2, hC⟩ := Kd.R_reads' hR
        clear q1 q2
        obtain ⟨ad, ha, hcell⟩ := cells_of_strings hC (by omega)
        injection ha with ha
        subst ha
        have hx := hcell m _ (part_get f L m hlt)
        rw [addr_add, Nat.zero_add] at hx
        have hmem : L[m] ∈ L := List.getElem_mem hlt
        have hps := part_set f L m hlt
        generalize L[m] = x at *
        have HRm := Lib.hid hR
        have HBm := Lib.hid hB
        have HX := Lib.hid hmem
        have HPS := Lib.hid hps
        have HG := Lib.hid hg
        have hglt : g < wr.heap.size := (Array.getElem?_eq_some_iff.1 hheap).1
        have HHP := Lib.hid hheap
        have hcur : m < cur.size := by
          rw [hcs]
          have : Kd.string.sz = 1 := rfl
          rw [this]
          omega
        have HCUR := Lib.hid hcur
        clear hR hB hmem hps hg hheap hown hRC hC hcell hcs htk hcm hnc hcur hll
        go_wp2_with fail
        refine (HF.out wr x HX.out HBm.out).mono ?_
        rintro e w2 ⟨rfl, hb2⟩
        have hheap2 : w2.heap[g]? = some (.cells cur 9 (0, 0)) := by rw [hb2.block g hglt]; exact HHP.out
        have hcell2 : w2.cell? ⟨g, m, none⟩ = cur[m]? := blk_get2 hheap2
        rw [Array.getElem?_eq_getElem HCUR.out] at hcell2
        generalize cur[m]'(HCUR.out) = u0 at hcell2
        have hfz : w2.frozen? ⟨g, m, none⟩ = false := blk_free2 hheap2
        have hR2 := Kd.R_putg (h1 := fun _ => rfl) (Kd.R_below HRm.out hb2) (m : Int) (f x)
        have HR2 := Lib.hid hR2.1
        have HB2 := Lib.hid (HBm.out.trans (hb2.mono HBm.out.size))
        clear hb2 hR2 hheap2 HHP HCUR
        have hl9 := HLEN.out
        go_wp2_with fail
        go_roundw
        case rel =>
          refine ⟨m + 1, by omega, by go_num, ?_, HB2.out.setCell (p := ⟨g, m, none⟩) HG.out _⟩
          have h3 := HR2.out
          rw [Int.toNat_natCast, HPS.out] at h3
          exact h3
        case measure => simp [intOf]; omega
    · obtain rfl : m = L.length := by omega
      rw [List.take_length, List.drop_length, List.append_nil] at hR
      obtain ⟨hl1, hl2, hC⟩ := Kd.R_reads' hR
      have HC := Lib.hid hC
      have HB2 := Lib.hid hB
      have e1 : (L.map f).length = L.length := List.length_map f
      rw [e1] at HC
      have HE1 := Lib.hid e1
      clear hR hB hC hl1 hl2 e1 hll
      go_wp2_with fail
      rw [← HE1.out]
      refine (texts_ended.calls A c (L.map f) r _ (by rw [HE1.out]; exact HC.out) (by rw [HE1.out]; exact HLC.out) HR.out).mono ?_
      rintro e w3 ⟨rfl, hb3⟩
      have HB3 := Lib.hid (HB2.out.trans (hb3.mono HB2.out.size))
      clear hb3
      go_wp2_with fail
      go_ret
      exact ⟨rfl, HB3.out⟩

def texts_Rev.f (s : ByteArray) : Option ByteArray :=
  (Q.octets_Lines.f (s.size + 2) s).bind fun L => if L.length ≤ 1000000000 ∧ L.all (fun x => decide (x.size ≤ 1000000000)) = true then texts_ended.f (L.map revB) else none
set_option maxHeartbeats 1000000 in
theorem texts_Rev.calls (a0 : ByteArray) (r : ByteArray) (w : World) (h : texts_Rev.f a0 = some r) :
    Calls Tryd.prog 13 #[.string a0] w fun e w' => e = .returned (.string r) ∧ Below w.heap.size w w' := by
  unfold texts_Rev.f at h
  obtain ⟨L, hL, h⟩ := Option.bind_eq_some_iff.1 h
  split at h
  case isFalse => cases h
  rename_i hc
  have HE := Lib.hid (every_calls 28 #[] revB a0 (a0.size + 2) L r w (enters_of Tryd.func28 (by kernel_rfl) rfl) hL
    (fun W x hx hb => rev_fn x W (by simpa using List.all_eq_true.1 hc.2 x hx)) h hc.1)
  clear hL h hc
  go_enter Tryd.func13, Tryd.ntmps13
  go_wp2_with fail
  refine HE.out.mono ?_
  rintro e w' ⟨rfl, hb⟩
  have HB := Lib.hid hb
  clear hb
  go_wp2_with fail
  go_ret
  exact ⟨rfl, HB.out⟩

end Go.Proofs.YtbckpnioimhgcaaDoor.Ext

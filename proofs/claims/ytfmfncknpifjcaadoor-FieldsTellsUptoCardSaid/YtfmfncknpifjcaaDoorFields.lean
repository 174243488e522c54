/- Proved: fields.Fields' call answers the fields that pPiece folds out of the pieces, in rows of its own. Condition: fewer than 10 to the 9 octets and pieces. -/
import Derived.Test.YtfmfncknpifjcaaDoorPiece
namespace Go.Proofs.YtfmfncknpifjcaaDoor.Ext
open Go.RowKit Go.Proofs.YtfmfncknpifjcaaDoor.P Go.Proofs.YtfmfncknpifjcaaDoorW.PrintWords

def tot (l : List S42) : Nat := (l.map fun p => p.f0.length + 1).sum
theorem tot_take (l : List S42) (k : Nat) (h : k < l.length) : tot (l.take (k + 1)) = tot (l.take k) + ((rd_T42 l (k : Int)).f0.length + 1) := by
  unfold tot
  rw [List.take_succ_eq_append_getElem h, List.map_append, List.sum_append]
  simp [rd_T42, List.getD_eq_getElem?_getD, List.getElem?_eq_getElem h]
theorem tot_le (l : List S42) (k : Nat) : tot (l.take k) ≤ tot l := by
  unfold tot
  have : (l.map fun p => p.f0.length + 1).sum = ((l.take k).map fun p => p.f0.length + 1).sum + ((l.drop k).map fun p => p.f0.length + 1).sum := by
    rw [← List.sum_append, ← List.map_append, List.take_append_drop]
  omega
theorem pPiece_out (ifs : ByteArray) (s : PS) (p : S42) : (pPiece ifs s p).out.length ≤ s.out.length + (p.f0.length + 1) ∧ (pPiece ifs s p).now.length ≤ s.now.length + (p.f0.length + 1) := by
  unfold pPiece
  have h0 : (if p.f2 = true then pBegin s else s).out.length = s.out.length ∧ (if p.f2 = true then pBegin s else s).now.length = s.now.length := by split <;> exact ⟨rfl, rfl⟩
  have h1 := pFold_out ifs p.f1 p.f0 (if p.f2 = true then pBegin s else s)
  simp only
  split
  · simp only [pEnd, List.length_append, List.length_cons, List.length_nil]
    omega
  · omega
theorem pAll_out (ifs : ByteArray) : ∀ (l : List S42) (s : PS), (l.foldl (pPiece ifs) s).out.length ≤ s.out.length + tot l ∧ (l.foldl (pPiece ifs) s).now.length ≤ s.now.length + tot l
  | [], s => ⟨Nat.le_refl _, Nat.le_refl _⟩
  | p :: l, s => by
    have h1 := pPiece_out ifs s p
    have h2 := pAll_out ifs l (pPiece ifs s p)
    have h3 : tot (p :: l) = p.f0.length + 1 + tot l := rfl
    simp only [List.foldl_cons]
    omega
theorem pAll_step (ifs : ByteArray) (l : List S42) (s : PS) (k : Nat) (h : k < l.length) :
    (l.take (k + 1)).foldl (pPiece ifs) s = pPiece ifs ((l.take k).foldl (pPiece ifs) s) (rd_T42 l (k : Int)) := by
  rw [List.take_succ_eq_append_getElem h, List.foldl_append]
  simp [rd_T42, List.getD_eq_getElem?_getD, List.getElem?_eq_getElem h]

set_option maxHeartbeats 2000000 in
theorem fields_each (g : Nat) (w0 w : World) (ifs : ByteArray) (s : PS) (l : List S42) (A : Option Addr) (c : Nat) (h : CP w0.heap.size g w ifs s) (hb : Below w0.heap.size w0 w) (hr : Kd.C k42 w0 A l.length l)
    (hsz : s.out.length + tot l ≤ 1000000000) (hnz : s.now.length + tot l ≤ 1000000000) (hl : l.length ≤ 1000000000) :
    Calls Tryd.prog 21 #[.slice A l.length c, .func (.func 22) #[.pointer (some ⟨g, 0, none⟩)] #[]] w fun e w' => e = .returned (.tuple #[]) ∧ CP w0.heap.size g w' ifs (l.foldl (pPiece ifs) s) ∧ Fr w0.heap.size w w' := by
  have hu42 := Tryd.underlying42
  have HR := Lib.hid hr
  have eg := enters_of Tryd.func22 (by kernel_rfl) rfl
  clear hr
  go_enter Tryd.func21, Tryd.ntmps21
  go_wp2_with fail
  go_loopw [8] (fun i wr => ∃ k, k ≤ l.length ∧ i = .int .i64 (k : Nat) ∧ CP w0.heap.size g wr ifs ((l.take k).foldl (pPiece ifs) s) ∧ Fr w0.heap.size w wr) (fun i _ => l.length - (intOf i).toNat)
  case atStart => exact ⟨0, Nat.zero_le _, rfl, h, Fr.refl _ _⟩
  case round =>
    obtain ⟨k, hk, rfl, hcp, hfr⟩ := hrel
    by_cases hlt : k < l.length
    · obtain ⟨ad, A0, c0, rfl, d0, d1, d2, d3, l0, g0⟩ := at_T42 HR.out (k : Int) (by omega) (by omega)
      rw [Int.toNat_natCast] at d0 d1 d2 d3
      have hbw := hb.trans hfr.1
      replace d0 := pw_cell_below hbw d0
      replace d1 := pw_cell_below hbw d1
      replace d2 := pw_cell_below hbw d2
      replace d3 := pw_cell_below hbw d3
      have HS := Lib.hid (pAll_step ifs l s k hlt)
      have ht := tot_take l k hlt
      have ht2 := tot_le l (k + 1)
      have ho := pAll_out ifs (l.take k) s
      have HCP := Lib.hid hcp
      have HFR := Lib.hid hfr
      have HBW := Lib.hid hbw
      have HG0 := Lib.hid g0
      generalize hp : rd_T42 l (k : Int) = p at *
      have HP := Lib.hid hp
      have hz1 : ((l.take k).foldl (pPiece ifs) s).out.length + p.f0.length + 1 ≤ 1000000000 := by omega
      have hz2 : ((l.take k).foldl (pPiece ifs) s).now.length + p.f0.length ≤ 1000000000 := by omega
      have HPC := Lib.hid (fun (W : World) (hW : Below wr.heap.size wr W) => fields_piece g w0 W ifs _ p A0 c0 (CS.below hcp hW) (hbw.trans (hW.mono hbw.size)) g0 hz1 hz2)
      clear hp hcp hfr hbw g0 ht ht2 ho hz1 hz2
      obtain ⟨pl, p1, p2, p3⟩ := p
      go_wp2_with fail
      refine (HPC.out _ ((Below.refl _ _).alloc (Nat.le_refl _) _)).mono ?_
      rintro e w' ⟨rfl, hc4, hf4⟩
      have HC4 := Lib.hid hc4
      have HF4 := Lib.hid hf4
      clear hc4 hf4
      go_wp2_with fail
      go_roundw
      case rel => exact ⟨k + 1, by omega, by go_num, by rw [HS.out]; exact HC4.out, HFR.out.trans ((Fr.of_below ((Below.refl _ _).alloc (Nat.le_refl _) _) HBW.out.size).trans HF4.out)⟩
      case measure => simp [intOf]; omega
    · have hk' : k = l.length := by omega
      subst hk'
      rw [List.take_length] at hcp
      have HCP := Lib.hid hcp
      have HFR := Lib.hid hfr
      clear hcp hfr
      go_wp2_with fail
      go_end0
      exact ⟨rfl, HCP.out, HFR.out⟩

/-- What the cutter has cut, as a row of rows of the call's own. -/
theorem CS.rows {B g : Nat} {W : World} {ifs : ByteArray} {out : List (List S39)} {now : List S39} {op wh : Bool} (h : CS B g W ifs out now op wh) :
    ∃ A k, W.cell? ⟨g, 1, none⟩ = some (.slice A out.length k) ∧ Kd.S (Kd.slice 39 k39) 40 W B (fun _ => True) (.slice A out.length k) out := by
  obtain ⟨f, ov, nv, ovs, hg, hB, ho, hl, hi, hn⟩ := h
  obtain ⟨A, k, rfl⟩ := own_slice ho
  refine ⟨A, k, by rw [← hl]; exact blk_get hg, f, fun _ _ => trivial, ovs, by rw [List.length_zipIdx, ← hl]; exact ho, by rw [List.length_zipIdx, hl]; simp [Kd.tag, Kd.slice], fun j p hp => ?_⟩
  obtain ⟨l, j'⟩ := p
  have hj : j < out.length := by
    have := (List.getElem?_eq_some_iff.1 hp).1
    simpa using this
  have e1 : out[j]? = some l ∧ j = j' := by
    rw [List.getElem?_zipIdx] at hp
    cases e : out[j]? with
    | none => rw [e] at hp; cases hp
    | some x =>
      rw [e] at hp
      simp at hp
      exact ⟨by rw [hp.1], hp.2⟩
  obtain ⟨e1, rfl⟩ := e1
  have hjo : j < ovs.length := by omega
  have hv : ovs[j]? = some ovs[j] := List.getElem?_eq_getElem hjo
  have hR := hi j _ l hv e1
  have hd : (ovs.drop (j * 1)).take 1 = [ovs[j]] := by
    rw [Nat.mul_one, List.drop_eq_getElem_cons hjo]
    rfl
  show Kd.M _ _ _ _ _ ((ovs.drop (j * 1)).take 1)
  rw [hd]
  refine ⟨ovs[j], rfl, ?_⟩
  have hb := Kd.R_types hR hg (fun q hq => by
    have : q = 39 := by simpa [k39, Kd.iso, Kd.pair, Kd.int, Kd.bool, Kd.scalar] using hq
    omega)
  have ha := R_apart (Kd.R_mono hb fun k hk => hk.1) ho
  exact Kd.R_mono ha fun k hk => ⟨⟨trivial, by rw [hl] at hk; exact hk.2⟩, hk.1⟩

theorem row_as {W : World} {B : Nat} {A : Option Addr} {k : Nat} {out r : List (List S39)} {now : List S39} {op wh : Bool}
    (hS : Kd.S (Kd.slice 39 k39) 40 W B (fun _ => True) (.slice A (out ++ [now]).length k) (out ++ [now])) (hr : (if (true : Bool) = true then (pEnd false ⟨out, now, op, wh⟩).out else out) = r) :
    ∃ n, n = out.length + 1 ∧ Kd.S (Kd.slice 39 k39) 40 W B (fun _ => True) (.slice A n k) r := by
  subst hr
  exact ⟨_, rfl, by simpa [pEnd] using hS⟩

def fields_Fields.f (l : List S42) (a1 : ByteArray) : Option (List (List S39)) :=
  if tot l + 1 ≤ 1000000000 then
    let s := l.foldl (pPiece a1) ⟨[], [], false, false⟩
    some (if s.op then (pEnd false s).out else s.out)
  else none

set_option maxHeartbeats 2000000 in
theorem fields_Fields.calls (A0 : Option Addr) (c0 : Nat) (l0 : List S42) (a1 : ByteArray) (r : List (List S39)) (w : World) (hr0 : Kd.C k42 w A0 l0.length l0) (hc0 : l0.length ≤ c0) (h : fields_Fields.f l0 a1 = some r) :
    Calls Tryd.prog 8 #[.slice A0 l0.length c0, .string a1] w fun e w' => ∃ v0_ : Value, e = .returned (v0_) ∧ Kd.S (Kd.slice 39 k39) 40 w' w.heap.size (fun _ => True) v0_ r ∧ Below w.heap.size w w' := by
  unfold fields_Fields.f at h
  split at h
  case isFalse => cases h
  rename_i hsz
  have hll : l0.length ≤ tot l0 := by
    clear hsz h hr0 hc0
    induction l0 with
    | nil => simp
    | cons p l ih =>
      have : tot (p :: l) = p.f0.length + 1 + tot l := rfl
      simp only [List.length_cons]
      omega
  have hr := Option.some.inj h
  clear h
  have hu48 := Tryd.underlying48
  have hA : Below w.heap.size w (w.alloc (.cells #[.string a1, .slice none 0 0, .slice none 0 0, .bool false, .bool false] 48)) := (Below.refl _ _).alloc (Nat.le_refl _) _
  have h0 : CP w.heap.size w.heap.size (w.alloc (.cells #[.string a1, .slice none 0 0, .slice none 0 0, .bool false, .bool false] 48)) a1 ⟨[], [], false, false⟩ :=
    ⟨fun _ => 0, .slice none 0 0, .slice none 0 0, [], heap_alloc_new _ _, Nat.le_refl _, own_nil _ _ _ _, rfl, fun j v l hv => by simp at hv, Kd.R_nil _ _ _ _ _⟩
  have HE := Lib.hid (fields_each w.heap.size w _ a1 _ l0 A0 c0 h0 hA hr0 (by show 0 + _ ≤ _; omega) (by show 0 + _ ≤ _; omega) (by omega))
  have ho := (pAll_out a1 l0 ⟨[], [], false, false⟩).1
  have hz : ([] : List (List S39)).length = 0 := rfl
  simp only at ho
  generalize hs : l0.foldl (pPiece a1) ⟨[], [], false, false⟩ = s at *
  have HS := Lib.hid hs
  have HRR := Lib.hid hr
  clear hs hr h0 hr0
  obtain ⟨out, now, op, wh⟩ := s
  simp only at ho
  go_enter Tryd.func8, Tryd.ntmps8
  go_wp2_with fail
  refine HE.out.mono ?_
  rintro e w' ⟨rfl, hc4, hf4⟩
  have HC4 := Lib.hid hc4
  have HF4 := Lib.hid hf4
  obtain ⟨f, ov, nv, ovs, hg, _⟩ := id hc4
  have x3 : w'.cell? ⟨w.heap.size, 3, none⟩ = some (.bool op) := blk_get hg
  clear hg hf4
  cases op
  · obtain ⟨A, k, x1, hS⟩ := CS.rows hc4
    have HSS := Lib.hid hS
    clear hc4 hS
    go_wp2_with fail
    go_ret
    exact ⟨_, rfl, by rw [← HRR.out]; exact HSS.out, hA.trans HF4.out.1⟩
  · have HEN := Lib.hid (fields_end _ _ _ _ _ _ _ _ false hc4 (by show out.length + 1 ≤ _; omega))
    clear hc4
    go_wp2_with fail
    refine HEN.out.mono ?_
    rintro e w2 ⟨rfl, hc5, hf5⟩
    have HF5 := Lib.hid hf5
    obtain ⟨A, k, x1, hS⟩ := CS.rows hc5
    have HSS := Lib.hid (row_as hS HRR.out)
    clear hc5 hf5 hS
    go_wp2_with fail
    go_ret
    obtain ⟨n, hn, hS⟩ := HSS.out
    exact ⟨_, rfl, by simpa [hn] using hS, hA.trans (HF4.out.1.trans HF5.out.1)⟩

end Go.Proofs.YtfmfncknpifjcaaDoor.Ext

/- Proved: brace.items' call at any parts: their items. Condition: at most 2 to the 40 items. -/
import Derived.Test.YtciflnnagkdjiaaDoorVsBrKinds
import Derived.WalkKit
import Derived.WalkSpells
import Derived.WalkLawsBesides
import Derived.Outline
import Derived.LoopTactic
set_option linter.unusedVariables false
set_option linter.unusedSimpArgs false
namespace Go.Proofs.YtciflnnagkdjiaaDoor.Ext
open Go.RowKit Go.Proofs.YtciflnnagkdjiaaDoorW.PrintWords
def isB : ItemS → UInt8 → Bool
  | .oct x, c => x == c
  | .part _, _ => false
set_option maxHeartbeats 1000000 in
/-- Is an item an octet? -/
theorem is_calls (x : ItemS) (c : UInt8) (u v : Value) (w : World) (hx : ItemK w x [u, v]) : Calls Tryd.prog 30 #[.agg #[u, v], .int .u8 c.toNat] w fun e w' => e = .returned (.bool (isB x c)) ∧ Below w.heap.size w w' := by
  cases x with
  | oct x =>
    obtain ⟨rfl, hv⟩ := List.cons.inj hx
    obtain rfl := (List.cons.inj hv).1
    clear hv hx
    go_enter Tryd.func30, Tryd.ntmps30
    go_wp2
    go_ret
    have he : ((x.toNat : Int) == (c.toNat : Int)) = (x == c) := by
      rw [Bool.eq_iff_iff, beq_iff_eq, beq_iff_eq]
      exact ⟨fun h => UInt8.toNat_inj.1 (by omega), fun h => by rw [h]⟩
    exact ⟨congrArg (fun b => Ending.returned (Value.bool b)) he, (Below.refl _ w).alloc (Nat.le_refl _) _⟩
  | part p =>
    obtain ⟨b, hx, _⟩ := hx
    obtain ⟨rfl, hv⟩ := List.cons.inj hx
    obtain rfl := (List.cons.inj hv).1
    clear hv hx
    go_enter Tryd.func30, Tryd.ntmps30
    go_wp2
    go_ret
    exact ⟨rfl, (Below.refl _ w).alloc (Nat.le_refl _) _⟩
def itemsOf (p : PartS) : List ItemS := if p.kind = 1 ∧ p.quoted = false then p.text.data.toList.map .oct else [.part p]
def itemsP (ps : List PartS) : List ItemS := ps.flatMap itemsOf
theorem itemsP_take {ps : List PartS} {k : Nat} (h : k < ps.length) : itemsP (ps.take (k + 1)) = itemsP (ps.take k) ++ itemsOf ps[k] := by
  unfold itemsP
  rw [← List.take_append_getElem h, List.flatMap_append, List.flatMap_singleton]
theorem itemsP_le {ps : List PartS} {k : Nat} (h : k < ps.length) : (itemsP (ps.take k)).length + (itemsOf ps[k]).length ≤ (itemsP ps).length := by
  rw [← List.length_append, ← itemsP_take h]
  unfold itemsP
  conv => rhs; rw [← List.take_append_drop (k + 1) ps, List.flatMap_append, List.length_append]
  exact Nat.le_add_right _ _
theorem R_row {α : Type} {d : Kd α} {e : Nat} {w : World} {base : Nat} {ok : Nat → Prop} {v : Value} {xs ys : List α} (h : d.R e w base ok v xs) (he : xs = ys) : d.R e w base ok v ys := he ▸ h
theorem infoI : (Tryd.prog.info? 70).map (fun i => (i.zero, i.size, i.bytes)) = some (some (.agg #[(.int .u8 0), (.pointer none)]), 2, 16) := by kernel_rfl
set_option maxHeartbeats 4000000 in
set_option maxRecDepth 100000 in
theorem items_calls (A : Option Addr) (c : Nat) (ps : List PartS) (w : World) (hr : Kd.C kP w A ps.length ps) (hc : ps.length ≤ c) (hl : (itemsP ps).length ≤ 1099511627776) :
    Calls Tryd.prog 22 #[.agg #[.slice A ps.length c]] w fun e w' => ∃ v, e = .returned v ∧ Kd.R kI 70 w' w.heap.size (fun _ => True) v (itemsP ps) ∧ Below w.heap.size w w' := by
  have HR := Lib.hid hr
  have HL := Lib.hid hl
  have hmax := Kd.C_max hr
  clear hr
  go_enter Tryd.func22, Tryd.ntmps22
  go_wp2_with fail
  have HB0 := Lib.hid ((Below.refl _ w).alloc (Nat.le_refl _) (.cells #[.slice A ps.length c] 28))
  go_loopw [3, 10] (fun out i wr => ∃ (k : Nat), k ≤ ps.length ∧ i = .int .i64 k ∧ Kd.R kI 70 wr w.heap.size (fun _ => True) out (itemsP (ps.take k)) ∧ Below w.heap.size w wr) (fun _ i _ => ps.length - (intOf i).toNat)
  case atStart => exact ⟨0, Nat.zero_le _, rfl, Kd.R_nil _ _ _ _ _, HB0.out⟩
  case round =>
    clear HB0
    obtain ⟨k, hk, rfl, hR, hb⟩ := hrel
    have HO := Lib.hid hR
    have HB := Lib.hid hb
    by_cases hlt : k < ps.length
    · obtain ⟨ad, rfl, x0, x1, x2, x3, x4, x5, x6, x7, x8, x9⟩ := at_P (Kd.C_below HR.out hb) (List.getElem?_eq_getElem hlt)
      have hlen := itemsP_le hlt
      have hgn := itemsP_take hlt
      generalize ps[k] = p at *
      have HG := Lib.hid hgn
      obtain ⟨pre, hpre⟩ : ∃ pre, pre = itemsP (ps.take k) := ⟨_, rfl⟩
      have HPRE := Lib.hid hpre
      rw [← hpre] at HO hlen
      clear hR hb hgn hpre
      have HO2 := Lib.hid (Kd.R_alloc HO.out (.cells (encP p).toArray 26))
      have HB2 := Lib.hid (HB.out.alloc HB.out.size (.cells (encP p).toArray 26))
      have HK2 := Lib.hid (heap_alloc_new wr (.cells (encP p).toArray 26))
      have HS2 : Hid (wr.heap.size < (wr.alloc (.cells (encP p).toArray 26)).heap.size) := Lib.hid (by simp)
      have HEW : Hid ((encP p).toArray = #[.int .i64 p.kind, .string p.text, .string p.name, .string p.op, .bool p.quoted, .slice p.l1.A p.l1.n p.l1.c, .slice p.l2.A p.l2.n p.l2.c, .slice p.l3.A p.l3.n p.l3.c, .slice p.l4.A p.l4.n p.l4.c, .int .i64 p.at_]) := Lib.hid rfl
      have HKE := Lib.hid HK2.out
      rw [HEW.out] at HO2 HB2 HK2 HS2
      by_cases hk1 : p.kind = 1
      · by_cases hk2 : p.quoted = false
        · have hit : itemsOf p = p.text.data.toList.map .oct := by unfold itemsOf; rw [if_pos ⟨hk1, hk2⟩]
          rw [hit, List.length_map] at hlen
          rw [hit] at HG
          rw [hk1, hk2] at HO2 HB2 HK2 HS2
          rw [hk1] at x0
          rw [hk2] at x4
          go_wp2_with fail
          clear x0 x1 x2 x3 x4 x5 x6 x7 x8 x9 hit
          generalize (wr.alloc (.cells #[.int .i64 1, .string p.text, .string p.name, .string p.op, .bool false, .slice p.l1.A p.l1.n p.l1.c, .slice p.l2.A p.l2.n p.l2.c, .slice p.l3.A p.l3.n p.l3.c, .slice p.l4.A p.l4.n p.l4.c, .int .i64 p.at_] 26)) = W2 at *
          generalize wr.heap.size = g at *
          have htl : p.text.data.toList.length = p.text.size := by simp
          go_loopw [3, 28] (fun out i wi => ∃ (j : Nat), j ≤ p.text.size ∧ i = .int .i64 j ∧ Kd.R kI 70 wi w.heap.size (fun _ => True) out (pre ++ (p.text.data.toList.take j).map .oct) ∧ Below w.heap.size w wi ∧ g < wi.heap.size ∧
              wi.heap[g]? = some (.cells #[.int .i64 1, .string p.text, .string p.name, .string p.op, .bool false, .slice p.l1.A p.l1.n p.l1.c, .slice p.l2.A p.l2.n p.l2.c, .slice p.l3.A p.l3.n p.l3.c, .slice p.l4.A p.l4.n p.l4.c, .int .i64 p.at_] 26 (0, 0))) (fun _ i _ => p.text.size - (intOf i).toNat)
          case atStart => exact ⟨0, Nat.zero_le _, rfl, by rw [List.take_zero, List.map_nil, List.append_nil]; exact HO2.out, HB2.out, HS2.out, HK2.out⟩
          case round =>
            clear HO HB HO2 HB2 HK2 HS2
            obtain ⟨j, hj, rfl, hR, hb, hs, hk⟩ := hrel
            have HO := Lib.hid hR
            have HB := Lib.hid hb
            have HBK := Lib.hid hk
            by_cases hjl : j < p.text.size
            · have y1 := (blk_cell hk 1).trans rfl
              clear hR hb hk
              have hpl : (pre ++ (p.text.data.toList.take j).map ItemS.oct).length = pre.length + j := by rw [List.length_append, List.length_map, List.length_take]; omega
              have HPL := Lib.hid hpl
              have HNE := Lib.hid (Kd.R_ne HO.out HBK.out (by decide))
              clear hpl
              go_wp2_with (at_builtin; refine Kd.R_append kI (w0 := w) w.heap.size rfl (.tmp 31) (.tmp 37) 53 70 (.agg #[(.int .u8 0), (.pointer none)]) 16 rfl Tryd.underlying53 infoI rfl (by decide) (by decide) _ (pre ++ (p.text.data.toList.take j).map ItemS.oct) (ItemS.oct p.text[j]) [.int .u8 p.text[j].toNat, .pointer none] (fun _ => True) (fun _ => False) rfl rfl ?aP (fun _ hk => hk.elim) ?aF ?aO ?aB ?aS ?aL ?_)
              case aP => exact rfl
              case aF => exact fun _ _ => trivial
              case aO => exact HO.out
              case aB => exact HB.out
              case aS => exact HB.out.size
              case aL => rw [HPL.out]; have := HL.out; omega
              intro v3 w3 hr3 hb3 hg3 _
              have hk3 := blk_grown HBK.out hg3 HNE.out
              have hs3 := Nat.lt_of_lt_of_le hs hg3.size
              have hrow : pre ++ ((p.text.data.toList.take j).map ItemS.oct ++ [ItemS.oct p.text[j]]) = pre ++ (p.text.data.toList.take (j + 1)).map ItemS.oct := by
                rw [← List.take_append_getElem (l := p.text.data.toList) (i := j) (by omega), List.map_append, List.map_singleton]
                rfl
              replace hr3 : Kd.R kI 70 w3 w.heap.size (fun _ => True) v3 (pre ++ (p.text.data.toList.take (j + 1)).map ItemS.oct) := R_row hr3 (by rw [← hrow]; simp)
              have HR3 := Lib.hid hr3
              have HB3 := Lib.hid hb3
              have HK3 := Lib.hid hk3
              clear hr3 hb3 hg3 hk3 hrow y1
              go_wp2_with fail
              go_roundw
              case rel => exact ⟨j + 1, by omega, by go_num, HR3.out, HB3.out, hs3, HK3.out⟩
              case measure => simp [intOf]; omega
            · have hje : j = p.text.size := by omega
              subst hje
              rw [← htl, List.take_length] at hR
              have HO := Lib.hid hR
              have y1 := (blk_cell hk 1).trans rfl
              clear hR hb hk
              go_wp2_with fail
              go_roundw
              case rel => exact ⟨k + 1, by omega, by go_num, by rw [HG.out, ← HPRE.out]; exact HO.out, HB.out⟩
              case measure => simp [intOf]; omega
        · have hit : itemsOf p = [.part p] := by unfold itemsOf; rw [if_neg (fun h => hk2 h.2)]
          rw [hit, List.length_singleton] at hlen
          rw [hit] at HG
          replace hk2 : p.quoted = true := by simpa using hk2
          rw [hk2] at x4
          rw [hk1] at x0
          rw [hk1, hk2] at HO2 HB2 HK2 HS2
          have HNE := Lib.hid (fun e => Nat.lt_irrefl _ (Kd.R_lt HO.out wr.heap.size (Eq.symm e)) : some wr.heap.size ≠ u3.ownBlock)
          go_wp2_with (at_builtin; go_loud (refine Kd.R_append kI (w0 := w) w.heap.size rfl (.tmp 21) (.tmp 23) 53 70 (.agg #[(.int .u8 0), (.pointer none)]) 16 rfl Tryd.underlying53 infoI rfl (by decide) (by decide) _ pre (ItemS.part p) [.int .u8 0, .pointer (some ⟨wr.heap.size, 0, none⟩)] (fun _ => True) (fun k => k = wr.heap.size) rfl ?aX ?aP ?aK ?aF ?aO ?aB ?aS ?aL ?_))
          case aX => exact (show _ = Value.slice (some ⟨wr.heap.size + 1, 0, none⟩) 1 1 from rfl).trans (by simp)
          case aP => exact ⟨_, rfl, by have := HKE.out; first | exact this | (rw [HEW.out, hk1, hk2] at this; rw [HEW.out, hk1, hk2]; exact this) | (rw [HEW.out] at this; rw [HEW.out]; exact this), rfl, HB.out.size⟩
          case aK => rintro k rfl; exact ⟨trivial, HNE.out⟩
          case aF => exact fun _ _ => trivial
          case aO => exact HO2.out
          case aB => exact HB2.out
          case aS => exact HB2.out.size
          case aL => have := HL.out; omega
          intro v3 w3 hr3 hb3 hg3 _
          have HR3 := Lib.hid hr3
          have HB3 := Lib.hid hb3
          clear hr3 hb3 hg3
          go_wp2_with fail
          go_roundw
          case rel => exact ⟨k + 1, by omega, by go_num, by rw [HG.out, ← HPRE.out]; exact HR3.out, HB3.out⟩
          case measure => simp [intOf]; omega
      · have hit : itemsOf p = [.part p] := by unfold itemsOf; rw [if_neg (fun h => hk1 h.1)]
        rw [hit, List.length_singleton] at hlen
        rw [hit] at HG
        skip
        have HNE := Lib.hid (fun e => Nat.lt_irrefl _ (Kd.R_lt HO.out wr.heap.size (Eq.symm e)) : some wr.heap.size ≠ u3.ownBlock)
        go_wp2_with (at_builtin; go_loud (refine Kd.R_append kI (w0 := w) w.heap.size rfl (.tmp 21) (.tmp 23) 53 70 (.agg #[(.int .u8 0), (.pointer none)]) 16 rfl Tryd.underlying53 infoI rfl (by decide) (by decide) _ pre (ItemS.part p) [.int .u8 0, .pointer (some ⟨wr.heap.size, 0, none⟩)] (fun _ => True) (fun k => k = wr.heap.size) rfl ?aX ?aP ?aK ?aF ?aO ?aB ?aS ?aL ?_))
        case aX => exact (show _ = Value.slice (some ⟨wr.heap.size + 1, 0, none⟩) 1 1 from rfl).trans (by simp)
        case aP => exact ⟨_, rfl, by have := HKE.out; first | exact this | (rw [HEW.out, hk1, hk2] at this; rw [HEW.out, hk1, hk2]; exact this) | (rw [HEW.out] at this; rw [HEW.out]; exact this), rfl, HB.out.size⟩
        case aK => rintro k rfl; exact ⟨trivial, HNE.out⟩
        case aF => exact fun _ _ => trivial
        case aO => exact HO2.out
        case aB => exact HB2.out
        case aS => exact HB2.out.size
        case aL => have := HL.out; omega
        intro v3 w3 hr3 hb3 hg3 _
        have HR3 := Lib.hid hr3
        have HB3 := Lib.hid hb3
        clear hr3 hb3 hg3
        go_wp2_with fail
        go_roundw
        case rel => exact ⟨k + 1, by omega, by go_num, by rw [HG.out, ← HPRE.out]; exact HR3.out, HB3.out⟩
        case measure => simp [intOf]; omega
    · have hke : k = ps.length := by omega
      subst hke
      rw [List.take_length] at hR
      have HO := Lib.hid hR
      clear hR hb
      go_wp2_with fail
      go_ret
      exact ⟨_, rfl, HO.out, HB.out⟩
end Go.Proofs.YtciflnnagkdjiaaDoor.Ext

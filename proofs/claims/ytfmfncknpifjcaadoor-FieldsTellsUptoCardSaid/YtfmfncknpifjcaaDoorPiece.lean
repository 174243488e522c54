/- Proved: what the cutter's piece does with a piece: octet by octet as pPiece tells. Conditions: the cutter is as CP tells it; fewer than 10 to the 9 fields and octets. -/
import Derived.Test.YtfmfncknpifjcaaDoorCut
import Derived.Deep.QuietTactic
import Derived.BigQuiet
import Derived.LoopTactic
set_option maxRecDepth 100000
namespace Go.Proofs.YtfmfncknpifjcaaDoor.Ext
open Go.RowKit Go.Proofs.YtfmfncknpifjcaaDoor.P Go.Proofs.YtfmfncknpifjcaaDoorW.PrintWords

def PRel (w0 w wr : World) (g : Nat) (ifs : ByteArray) (s : PS) (p : S42) (A : Option Addr) (c : Nat) (k : Nat) : Prop :=
  CP w0.heap.size g wr ifs ((p.f0.take k).foldl (pChar ifs p.f1) s) ∧ Fr w0.heap.size w wr ∧ wr.heap[w.heap.size]? = some (.cells #[.slice A p.f0.length c, .bool p.f1, .bool p.f2, .bool p.f3] 42 (0, 0))

theorem CP.lens {B g : Nat} {w : World} {ifs : ByteArray} {s : PS} (h : CP B g w ifs s) : B ≤ g := by
  obtain ⟨_, _, _, _, _, hB, _⟩ := h
  exact hB
theorem pMark_out (b : Bool) (s : PS) : (pMark b s).out.length ≤ s.out.length + 1 ∧ (pMark b s).now.length ≤ s.now.length := by
  unfold pMark pEnd
  split
  · simp
  · split
    · exact ⟨by omega, Nat.le_refl _⟩
    · split
      · exact ⟨by simp, Nat.le_refl _⟩
      · simp
theorem pChar_out (ifs : ByteArray) (b : Bool) (s : PS) (c : S39) : (pChar ifs b s c).out.length ≤ s.out.length + 1 ∧ (pChar ifs b s c).now.length ≤ s.now.length + 1 := by
  unfold pChar
  split
  · have := pMark_out (decide (0 ≤ Lib.indexByte [32, 9, 10] (UInt8.ofNat c.f0.toNat))) s
    omega
  · simp [pBegin]
theorem pFold_out (ifs : ByteArray) (b : Bool) : ∀ (l : List S39) (s : PS), (l.foldl (pChar ifs b) s).out.length ≤ s.out.length + l.length ∧ (l.foldl (pChar ifs b) s).now.length ≤ s.now.length + l.length
  | [], s => ⟨Nat.le_refl _, Nat.le_refl _⟩
  | c :: l, s => by
    have h1 := pChar_out ifs b s c
    have h2 := pFold_out ifs b l (pChar ifs b s c)
    simp only [List.foldl_cons, List.length_cons]
    omega

theorem pStep (ifs : ByteArray) (b : Bool) (l : List S39) (s : PS) (k : Nat) (x : S39) (h : k < l.length) (e : rd_T39 l (k : Int) = x) :
    (l.take (k + 1)).foldl (pChar ifs b) s = pChar ifs b ((l.take k).foldl (pChar ifs b) s) x := by
  rw [List.take_succ_eq_append_getElem h, List.foldl_append]
  have : l[k] = x := by
    rw [← e]
    simp [rd_T39, List.getD_eq_getElem?_getD, List.getElem?_eq_getElem h]
  rw [this]
  rfl

theorem one_two (a : Int) (b : Bool) : ∀ u ∈ ([.int .u8 a, .bool b] : List Value), u.oneCell' = true := by
  intro u hu
  rcases List.mem_cons.1 hu with rfl | hu
  · rfl
  · obtain rfl := List.mem_singleton.1 hu
    rfl
theorem below_drewN2 {a b : World} (h : Below a.heap.size a b) (n : Nat) : Below a.heap.size a (b.drewN n) := ⟨h.os, h.tape, h.output, h.size, h.block⟩

set_option maxHeartbeats 8000000 in
theorem fields_piece (g : Nat) (w0 w : World) (ifs : ByteArray) (s : PS) (p : S42) (A : Option Addr) (c : Nat) (h : CP w0.heap.size g w ifs s) (hb : Below w0.heap.size w0 w) (hr : Kd.C k39 w0 A p.f0.length p.f0)
    (hsz : s.out.length + p.f0.length + 1 ≤ 1000000000) (hnz : s.now.length + p.f0.length ≤ 1000000000) :
    Calls Tryd.prog 22 #[.pointer (some ⟨g, 0, none⟩), .agg #[.slice A p.f0.length c, .bool p.f1, .bool p.f2, .bool p.f3]] w fun e w' => e = .returned (.tuple #[]) ∧ CP w0.heap.size g w' ifs (pPiece ifs s p) ∧ Fr w0.heap.size w w' := by
  have hu39 := Tryd.underlying39
  have hu42 := Tryd.underlying42
  obtain ⟨l, sp, kp, ct⟩ := p
  simp only at hr hsz hnz ⊢
  have hbox : Below w.heap.size w (w.alloc (.cells #[.slice A l.length c, .bool sp, .bool kp, .bool ct] 42)) := (Below.refl _ _).alloc (Nat.le_refl _) _
  have hB : w0.heap.size ≤ w.heap.size := hb.size
  have hx : (w.alloc (.cells #[.slice A l.length c, .bool sp, .bool kp, .bool ct] 42)).heap[w.heap.size]? = some (.cells #[.slice A l.length c, .bool sp, .bool kp, .bool ct] 42 (0, 0)) := heap_alloc_new _ _
  have HX := Lib.hid hx
  have h1 : CP w0.heap.size g (w.alloc (.cells #[.slice A l.length c, .bool sp, .bool kp, .bool ct] 42)) ifs s := CS.below h hbox
  have hfr : Fr w0.heap.size w (w.alloc (.cells #[.slice A l.length c, .bool sp, .bool kp, .bool ct] 42)) := Fr.of_below hbox hB
  have hlen : l.length ≤ 1000000000 := by omega
  have HR := Lib.hid hr
  clear hx hr
  cases kp
  · go_enter Tryd.func22, Tryd.ntmps22
    go_wp2_with fail
    go_loopw [13] (fun i wr => ∃ k, k ≤ l.length ∧ i = .int .i64 (k : Nat) ∧ PRel w0 w wr g ifs s ⟨l, sp, false, ct⟩ A c k) (fun i _ => l.length - (intOf i).toNat)
    case atStart => exact ⟨0, Nat.zero_le _, rfl, h1, hfr, HX.out⟩
    case round =>
      clear h1 hfr HX
      obtain ⟨k, hk, rfl, hcp, hfr, hx⟩ := hrel
      simp only at hcp hx
      by_cases hlt : k < l.length
      · have hrw := Kd.C_below HR.out (hb.trans hfr.1)
        obtain ⟨ad, rfl, d0, d1⟩ := at_T39 hrw (k : Int) (by omega) (by omega)
        rw [Int.toNat_natCast] at d0 d1
        obtain ⟨x, ex⟩ : ∃ x, rd_T39 l (k : Int) = x := ⟨_, rfl⟩
        rw [ex] at d0 d1
        have HS := Lib.hid (pStep ifs sp l s k x hlt ex)
        obtain ⟨xc, xq⟩ := x
        simp only at d0 d1
        have hA2 : Below wr.heap.size wr (wr.alloc (.cells #[.int .u8 xc, .bool xq] 39)) := (Below.refl _ _).alloc (Nat.le_refl _) _
        have hx2 := (hA2.block _ (Array.getElem?_eq_some_iff.1 hx).1).trans hx
        have q1 : (wr.alloc (.cells #[.int .u8 xc, .bool xq] 39)).cell? ⟨w.heap.size, 1, none⟩ = some (.bool sp) := blk_get hx2
        have q0 : (wr.alloc (.cells #[.int .u8 xc, .bool xq] 39)).cell? ⟨g, 0, none⟩ = some (.string ifs) := by
          obtain ⟨_, _, _, _, hgg, _⟩ := id (CS.below hcp hA2)
          exact blk_get hgg
        have HX := Lib.hid hx
        have HCP0 := Lib.hid hcp
        clear hrw ex hx hx2 hcp
        cases sp
        · go_wp2_with fail
          go_quiet (fail)
          go_wp2_with fail
          have hW := below_drewN2 hA2 nq
          have hcp3 := CS.below HCP0.out hW
          have hx3 := (hW.block _ (Array.getElem?_eq_some_iff.1 HX.out).1).trans HX.out
          have y0 : ((wr.alloc (.cells #[.int .u8 xc, .bool xq] 39)).drewN nq).cell? ⟨wr.heap.size, 0, none⟩ = some (.int .u8 xc) := blk_get (heap_alloc_new wr _)
          have y1 : ((wr.alloc (.cells #[.int .u8 xc, .bool xq] 39)).drewN nq).cell? ⟨wr.heap.size, 1, none⟩ = some (.bool xq) := blk_get (heap_alloc_new wr _)
          have HN := Lib.hid (HS.out.trans (if_neg (by simp)))
          have hfr3 : Fr w0.heap.size w ((wr.alloc (.cells #[.int .u8 xc, .bool xq] 39)).drewN nq) := hfr.trans (Fr.of_below hW (Nat.le_trans hB hfr.1.size))
          clear HCP0 HS hW hA2 hfr q0 q1
          generalize (wr.alloc (.cells #[.int .u8 xc, .bool xq] 39)).drewN nq = W3 at *
          have hlen3 := pFold_out ifs false (l.take k) s
          rw [List.length_take] at hlen3
          generalize hT : (l.take k).foldl (pChar ifs false) s = T at *
          clear hT
          obtain ⟨out, now, op, wh⟩ := T
          simp only at hlen3
          obtain ⟨f, ov, nv, ovs, hg, hBg, ho, hl, hi, hn⟩ := hcp3
          obtain ⟨A2, k2, rfl, _, _⟩ := Kd.R_reads hn
          obtain ⟨hf, inner, hnr, hrp⟩ := hn
          have hnr : W3.ownsRow w0.heap.size 39 2 (.slice A2 now.length k2) now.length inner := hnr
          have z2 : W3.cell? ⟨g, 2, none⟩ = some (.slice A2 now.length k2) := blk_get hg
          obtain ⟨i0, hi0, hz0, hz1, hz2⟩ := info_parts info39'
          have hA := Below.refl W3.heap.size W3 |>.alloc (Nat.le_refl _) (.cells #[.int .u8 xc, .bool xq] 39) |>.drew
          have HOW := Lib.hid (pw_own_below hnr hA)
          have HNW := Lib.hid (news_two W3 (.int .u8 xc) (.bool xq) 39)
          have hgl := (Array.getElem?_eq_some_iff.1 hg).1
          have hne : some g ≠ (Value.slice A2 now.length k2).ownBlock := fun he => by
            obtain ⟨cells, hc⟩ := own_typed hnr g he.symm
            rw [hg] at hc
            injection hc with hc
            injection hc with _ ht
            exact absurd ht (by decide)
          have HK := Lib.hid (fun (w1 : World) (hgr : ((W3.alloc (.cells #[.int .u8 xc, .bool xq] 39)).drew).grownBy w1 (Value.slice A2 now.length k2).ownBlock) =>
            (show w1.heap[g]? = some (.cells #[.string ifs, ov, .slice A2 now.length k2, .bool op, .bool wh] 48 (0, 0)) from
              (hgr.block g (Nat.lt_of_lt_of_le hgl hA.size) hne).trans ((hA.block g hgl).trans hg)))
          have hbytes : (now.length + 1) * 2 ≤ 140737488355328 := by omega
          have hmax : now.length + 1 ≤ maxLen := by unfold maxLen; omega
          have hbase : w0.heap.size ≤ ((W3.alloc (.cells #[.int .u8 xc, .bool xq] 39)).drew).heap.size := Nat.le_trans hBg (Nat.le_trans (Nat.le_of_lt hgl) hA.size)
          have HA := Lib.hid hA
          have HG := Lib.hid hg
          have HX3 := Lib.hid hx3
          have HFR := Lib.hid hfr3
          have HREST := Lib.hid (And.intro ho (And.intro hl (And.intro hi (And.intro hf (And.intro hnr hrp)))))
          clear hg ho hl hi hf hnr hrp hA hx3 hfr3 hne
          go_region_law (refine step_append_lies _ rfl (.tmp 44) (.tmp 46) 40 rfl w0.heap.size 39 i0 (.agg #[(.int .u8 0), (.bool false)]) 2 2 Tryd.underlying40 hi0 hz0 hz1 hz2 rfl (by decide) (.slice A2 now.length k2) now.length inner (by simp [Act.eval]) HOW.out ⟨W3.heap.size, 0, none⟩ 1 1 [.int .u8 xc, .bool xq] (by simp [Act.eval]) rfl HNW.out (one_two xc xq) (by decide) hmax hbytes hbase (W3.heap.size + 1) (by simp) ?_; intro g1 cap1 w1 hown1 hgr1 hat1 hlt1; have hg1 := HK.out w1 hgr1; have v2 : w1.cell? ⟨g, 2, none⟩ = some (.slice A2 now.length k2) := blk_get hg1; have e2 : w1.frozen? ⟨g, 2, none⟩ = false := blk_free hg1; have HG1 := Lib.hid hg1; have HGR := Lib.hid hgr1; have HOWN := Lib.hid hown1; have HAT := Lib.hid hat1; clear hg1 hgr1 hown1 hat1)
          all_goals
            have HF := CS.add (w := W3) ⟨xc, xq⟩ HG.out hBg HREST.out.1 HREST.out.2.1 HREST.out.2.2.1 HREST.out.2.2.2.1 HREST.out.2.2.2.2.1 HREST.out.2.2.2.2.2 HA.out hbase HGR.out HG1.out HOWN.out (fun k hk => by
              rcases HAT.out with h | h
              · exact .inl (by rw [h]; exact hk)
              · exact .inr (by rw [Value.ownBlock] at hk; injection hk with hk; simp only at hk; omega))
            have HF := Lib.hid HF
            go_wp2_with fail
            refine (fields_begin _ g _ ifs _ _ _ _ HF.out.1).mono ?_
            rintro e w' ⟨rfl, hcp4, hfr4⟩
            have HC4 := Lib.hid hcp4
            have HF4 := Lib.hid hfr4
            clear hcp4 hfr4
            go_wp2_with fail
            go_roundw
            case rel => exact ⟨k + 1, by omega, by go_num, by show CP _ _ _ _ _; rw [HN.out]; exact HC4.out, HFR.out.trans (HF.out.2.trans HF4.out), HF4.out.2 _ _ _ (HF.out.2.2 _ _ _ HX3.out)⟩
            case measure => simp [intOf]; omega
        · cases xq
          · by_cases hin : 0 ≤ Lib.indexByte ifs.data.toList (UInt8.ofNat xc.toNat)
            · go_wp2_with fail
              go_quiet ((go_at_call 41; exact Calls.quiet_of_same (Tryd.strings_IndexByte _ _ _)))
              go_wp2_with fail
              have hW := below_drewN2 hA2 nq
              have hcp3 := CS.below HCP0.out hW
              have hx3 := (hW.block _ (Array.getElem?_eq_some_iff.1 HX.out).1).trans HX.out
              have HN := Lib.hid (HS.out.trans (if_pos ⟨rfl, rfl, hin⟩))
              have hfr3 : Fr w0.heap.size w ((wr.alloc (.cells #[.int .u8 xc, .bool false] 39)).drewN nq) := hfr.trans (Fr.of_below hW (Nat.le_trans hB hfr.1.size))
              clear HCP0 HS hW hA2 hfr q0 q1
              have hlen3 := pFold_out ifs true (l.take k) s
              rw [List.length_take] at hlen3
              have HM := Lib.hid (fun b => fields_mark _ g _ ifs _ b hcp3 (by omega))
              have HX3 := Lib.hid hx3
              have HFR := Lib.hid hfr3
              clear hx3 hfr3 hcp3
              refine (Tryd.strings_IndexByte _ _ _).mono ?_
              rintro e w' ⟨rfl, rfl⟩
              go_wp2_with fail
              refine (HM.out _).mono ?_
              rintro e w' ⟨rfl, hcp4, hfr4⟩
              have HC4 := Lib.hid hcp4
              have HF4 := Lib.hid hfr4
              clear hcp4 hfr4
              go_wp2_with fail
              go_roundw
              case rel => exact ⟨k + 1, by omega, by go_num, by show CP _ _ _ _ _; rw [HN.out]; exact HC4.out, HFR.out.trans HF4.out, HF4.out.2 _ _ _ HX3.out⟩
              case measure => simp [intOf]; omega
            · have hin : Lib.indexByte ifs.data.toList (UInt8.ofNat xc.toNat) < 0 := by omega
              go_wp2_with fail
              go_quiet ((go_at_call 41; exact Calls.quiet_of_same (Tryd.strings_IndexByte _ _ _)))
              go_wp2_with fail
              have hW := below_drewN2 hA2 nq
              have hcp3 := CS.below HCP0.out hW
              have hx3 := (hW.block _ (Array.getElem?_eq_some_iff.1 HX.out).1).trans HX.out
              have y0 : ((wr.alloc (.cells #[.int .u8 xc, .bool false] 39)).drewN nq).cell? ⟨wr.heap.size, 0, none⟩ = some (.int .u8 xc) := blk_get (heap_alloc_new wr _)
              have y1 : ((wr.alloc (.cells #[.int .u8 xc, .bool false] 39)).drewN nq).cell? ⟨wr.heap.size, 1, none⟩ = some (.bool false) := blk_get (heap_alloc_new wr _)
              have HN := Lib.hid (HS.out.trans (if_neg (fun h => absurd h.2.2 (by show ¬ 0 ≤ Lib.indexByte ifs.data.toList (UInt8.ofNat xc.toNat); omega))))
              have hfr3 : Fr w0.heap.size w ((wr.alloc (.cells #[.int .u8 xc, .bool false] 39)).drewN nq) := hfr.trans (Fr.of_below hW (Nat.le_trans hB hfr.1.size))
              clear HCP0 HS hW hA2 hfr q0 q1
              generalize (wr.alloc (.cells #[.int .u8 xc, .bool false] 39)).drewN nq = W3 at *
              have hlen3 := pFold_out ifs true (l.take k) s
              rw [List.length_take] at hlen3
              generalize hT : (l.take k).foldl (pChar ifs true) s = T at *
              clear hT
              obtain ⟨out, now, op, wh⟩ := T
              simp only at hlen3
              obtain ⟨f, ov, nv, ovs, hg, hBg, ho, hl, hi, hn⟩ := hcp3
              obtain ⟨A2, k2, rfl, _, _⟩ := Kd.R_reads hn
              obtain ⟨hf, inner, hnr, hrp⟩ := hn
              have hnr : W3.ownsRow w0.heap.size 39 2 (.slice A2 now.length k2) now.length inner := hnr
              have z2 : W3.cell? ⟨g, 2, none⟩ = some (.slice A2 now.length k2) := blk_get hg
              obtain ⟨i0, hi0, hz0, hz1, hz2⟩ := info_parts info39'
              have hA := Below.refl W3.heap.size W3 |>.alloc (Nat.le_refl _) (.cells #[.int .u8 xc, .bool false] 39) |>.drew
              have HOW := Lib.hid (pw_own_below hnr hA)
              have HNW := Lib.hid (news_two W3 (.int .u8 xc) (.bool false) 39)
              have hgl := (Array.getElem?_eq_some_iff.1 hg).1
              have hne : some g ≠ (Value.slice A2 now.length k2).ownBlock := fun he => by
                obtain ⟨cells, hc⟩ := own_typed hnr g he.symm
                rw [hg] at hc
                injection hc with hc
                injection hc with _ ht
                exact absurd ht (by decide)
              have HK := Lib.hid (fun (w1 : World) (hgr : ((W3.alloc (.cells #[.int .u8 xc, .bool false] 39)).drew).grownBy w1 (Value.slice A2 now.length k2).ownBlock) =>
                (show w1.heap[g]? = some (.cells #[.string ifs, ov, .slice A2 now.length k2, .bool op, .bool wh] 48 (0, 0)) from
                  (hgr.block g (Nat.lt_of_lt_of_le hgl hA.size) hne).trans ((hA.block g hgl).trans hg)))
              have hbytes : (now.length + 1) * 2 ≤ 140737488355328 := by omega
              have hmax : now.length + 1 ≤ maxLen := by unfold maxLen; omega
              have hbase : w0.heap.size ≤ ((W3.alloc (.cells #[.int .u8 xc, .bool false] 39)).drew).heap.size := Nat.le_trans hBg (Nat.le_trans (Nat.le_of_lt hgl) hA.size)
              have HA := Lib.hid hA
              have HG := Lib.hid hg
              have HX3 := Lib.hid hx3
              have HFR := Lib.hid hfr3
              have HREST := Lib.hid (And.intro ho (And.intro hl (And.intro hi (And.intro hf (And.intro hnr hrp)))))
              clear hg ho hl hi hf hnr hrp hA hx3 hfr3 hne
              go_region_law (refine step_append_lies _ rfl (.tmp 44) (.tmp 46) 40 rfl w0.heap.size 39 i0 (.agg #[(.int .u8 0), (.bool false)]) 2 2 Tryd.underlying40 hi0 hz0 hz1 hz2 rfl (by decide) (.slice A2 now.length k2) now.length inner (by simp [Act.eval]) HOW.out ⟨W3.heap.size, 0, none⟩ 1 1 [.int .u8 xc, .bool false] (by simp [Act.eval]) rfl HNW.out (one_two xc false) (by decide) hmax hbytes hbase (W3.heap.size + 1) (by simp) ?_; intro g1 cap1 w1 hown1 hgr1 hat1 hlt1; have hg1 := HK.out w1 hgr1; have v2 : w1.cell? ⟨g, 2, none⟩ = some (.slice A2 now.length k2) := blk_get hg1; have e2 : w1.frozen? ⟨g, 2, none⟩ = false := blk_free hg1; have HG1 := Lib.hid hg1; have HGR := Lib.hid hgr1; have HOWN := Lib.hid hown1; have HAT := Lib.hid hat1; clear hg1 hgr1 hown1 hat1)
              all_goals
                have HF := CS.add (w := W3) ⟨xc, false⟩ HG.out hBg HREST.out.1 HREST.out.2.1 HREST.out.2.2.1 HREST.out.2.2.2.1 HREST.out.2.2.2.2.1 HREST.out.2.2.2.2.2 HA.out hbase HGR.out HG1.out HOWN.out (fun k hk => by
                  rcases HAT.out with h | h
                  · exact .inl (by rw [h]; exact hk)
                  · exact .inr (by rw [Value.ownBlock] at hk; injection hk with hk; simp only at hk; omega))
                have HF := Lib.hid HF
                go_wp2_with fail
                refine (fields_begin _ g _ ifs _ _ _ _ HF.out.1).mono ?_
                rintro e w' ⟨rfl, hcp4, hfr4⟩
                have HC4 := Lib.hid hcp4
                have HF4 := Lib.hid hfr4
                clear hcp4 hfr4
                go_wp2_with fail
                go_roundw
                case rel => exact ⟨k + 1, by omega, by go_num, by show CP _ _ _ _ _; rw [HN.out]; exact HC4.out, HFR.out.trans (HF.out.2.trans HF4.out), HF4.out.2 _ _ _ (HF.out.2.2 _ _ _ HX3.out)⟩
                case measure => simp [intOf]; omega
          · go_wp2_with fail
            go_quiet (fail)
            go_wp2_with fail
            have hW := below_drewN2 hA2 nq
            have hcp3 := CS.below HCP0.out hW
            have hx3 := (hW.block _ (Array.getElem?_eq_some_iff.1 HX.out).1).trans HX.out
            have y0 : ((wr.alloc (.cells #[.int .u8 xc, .bool true] 39)).drewN nq).cell? ⟨wr.heap.size, 0, none⟩ = some (.int .u8 xc) := blk_get (heap_alloc_new wr _)
            have y1 : ((wr.alloc (.cells #[.int .u8 xc, .bool true] 39)).drewN nq).cell? ⟨wr.heap.size, 1, none⟩ = some (.bool true) := blk_get (heap_alloc_new wr _)
            have HN := Lib.hid (HS.out.trans (if_neg (by simp)))
            have hfr3 : Fr w0.heap.size w ((wr.alloc (.cells #[.int .u8 xc, .bool true] 39)).drewN nq) := hfr.trans (Fr.of_below hW (Nat.le_trans hB hfr.1.size))
            clear HCP0 HS hW hA2 hfr q0 q1
            generalize (wr.alloc (.cells #[.int .u8 xc, .bool true] 39)).drewN nq = W3 at *
            have hlen3 := pFold_out ifs true (l.take k) s
            rw [List.length_take] at hlen3
            generalize hT : (l.take k).foldl (pChar ifs true) s = T at *
            clear hT
            obtain ⟨out, now, op, wh⟩ := T
            simp only at hlen3
            obtain ⟨f, ov, nv, ovs, hg, hBg, ho, hl, hi, hn⟩ := hcp3
            obtain ⟨A2, k2, rfl, _, _⟩ := Kd.R_reads hn
            obtain ⟨hf, inner, hnr, hrp⟩ := hn
            have hnr : W3.ownsRow w0.heap.size 39 2 (.slice A2 now.length k2) now.length inner := hnr
            have z2 : W3.cell? ⟨g, 2, none⟩ = some (.slice A2 now.length k2) := blk_get hg
            obtain ⟨i0, hi0, hz0, hz1, hz2⟩ := info_parts info39'
            have hA := Below.refl W3.heap.size W3 |>.alloc (Nat.le_refl _) (.cells #[.int .u8 xc, .bool true] 39) |>.drew
            have HOW := Lib.hid (pw_own_below hnr hA)
            have HNW := Lib.hid (news_two W3 (.int .u8 xc) (.bool true) 39)
            have hgl := (Array.getElem?_eq_some_iff.1 hg).1
            have hne : some g ≠ (Value.slice A2 now.length k2).ownBlock := fun he => by
              obtain ⟨cells, hc⟩ := own_typed hnr g he.symm
              rw [hg] at hc
              injection hc with hc
              injection hc with _ ht
              exact absurd ht (by decide)
            have HK := Lib.hid (fun (w1 : World) (hgr : ((W3.alloc (.cells #[.int .u8 xc, .bool true] 39)).drew).grownBy w1 (Value.slice A2 now.length k2).ownBlock) =>
              (show w1.heap[g]? = some (.cells #[.string ifs, ov, .slice A2 now.length k2, .bool op, .bool wh] 48 (0, 0)) from
                (hgr.block g (Nat.lt_of_lt_of_le hgl hA.size) hne).trans ((hA.block g hgl).trans hg)))
            have hbytes : (now.length + 1) * 2 ≤ 140737488355328 := by omega
            have hmax : now.length + 1 ≤ maxLen := by unfold maxLen; omega
            have hbase : w0.heap.size ≤ ((W3.alloc (.cells #[.int .u8 xc, .bool true] 39)).drew).heap.size := Nat.le_trans hBg (Nat.le_trans (Nat.le_of_lt hgl) hA.size)
            have HA := Lib.hid hA
            have HG := Lib.hid hg
            have HX3 := Lib.hid hx3
            have HFR := Lib.hid hfr3
            have HREST := Lib.hid (And.intro ho (And.intro hl (And.intro hi (And.intro hf (And.intro hnr hrp)))))
            clear hg ho hl hi hf hnr hrp hA hx3 hfr3 hne
            go_region_law (refine step_append_lies _ rfl (.tmp 44) (.tmp 46) 40 rfl w0.heap.size 39 i0 (.agg #[(.int .u8 0), (.bool false)]) 2 2 Tryd.underlying40 hi0 hz0 hz1 hz2 rfl (by decide) (.slice A2 now.length k2) now.length inner (by simp [Act.eval]) HOW.out ⟨W3.heap.size, 0, none⟩ 1 1 [.int .u8 xc, .bool true] (by simp [Act.eval]) rfl HNW.out (one_two xc true) (by decide) hmax hbytes hbase (W3.heap.size + 1) (by simp) ?_; intro g1 cap1 w1 hown1 hgr1 hat1 hlt1; have hg1 := HK.out w1 hgr1; have v2 : w1.cell? ⟨g, 2, none⟩ = some (.slice A2 now.length k2) := blk_get hg1; have e2 : w1.frozen? ⟨g, 2, none⟩ = false := blk_free hg1; have HG1 := Lib.hid hg1; have HGR := Lib.hid hgr1; have HOWN := Lib.hid hown1; have HAT := Lib.hid hat1; clear hg1 hgr1 hown1 hat1)
            all_goals
              have HF := CS.add (w := W3) ⟨xc, true⟩ HG.out hBg HREST.out.1 HREST.out.2.1 HREST.out.2.2.1 HREST.out.2.2.2.1 HREST.out.2.2.2.2.1 HREST.out.2.2.2.2.2 HA.out hbase HGR.out HG1.out HOWN.out (fun k hk => by
                rcases HAT.out with h | h
                · exact .inl (by rw [h]; exact hk)
                · exact .inr (by rw [Value.ownBlock] at hk; injection hk with hk; simp only at hk; omega))
              have HF := Lib.hid HF
              go_wp2_with fail
              refine (fields_begin _ g _ ifs _ _ _ _ HF.out.1).mono ?_
              rintro e w' ⟨rfl, hcp4, hfr4⟩
              have HC4 := Lib.hid hcp4
              have HF4 := Lib.hid hfr4
              clear hcp4 hfr4
              go_wp2_with fail
              go_roundw
              case rel => exact ⟨k + 1, by omega, by go_num, by show CP _ _ _ _ _; rw [HN.out]; exact HC4.out, HFR.out.trans (HF.out.2.trans HF4.out), HF4.out.2 _ _ _ (HF.out.2.2 _ _ _ HX3.out)⟩
              case measure => simp [intOf]; omega
      · have hk' : k = l.length := by omega
        subst hk'
        rw [List.take_length] at hcp
        have q3 : wr.cell? ⟨w.heap.size, 3, none⟩ = some (.bool ct) := blk_get hx
        have hlen4 := pFold_out ifs sp l s
        have HFR := Lib.hid hfr
        have HCP := Lib.hid hcp
        have HE := Lib.hid (fields_end w0.heap.size g wr ifs _ _ _ _ false hcp (by omega))
        clear hcp hfr hx
        cases ct
        · go_wp2_with fail
          go_end0
          exact ⟨rfl, HCP.out, HFR.out⟩
        · go_wp2_with fail
          refine HE.out.mono ?_
          rintro e w' ⟨rfl, hcp4, hfr4⟩
          have HC4 := Lib.hid hcp4
          have HF4 := Lib.hid hfr4
          clear hcp4 hfr4
          go_wp2_with fail
          go_end0
          exact ⟨rfl, HC4.out, HFR.out.trans HF4.out⟩
  · go_enter Tryd.func22, Tryd.ntmps22
    go_wp2_with fail
    refine (fields_begin _ g _ ifs _ _ _ _ h1).mono ?_
    rintro e w' ⟨rfl, hcp0, hfr0⟩
    replace h1 : CP w0.heap.size g w' ifs (pBegin s) := hcp0
    have hx := hfr0.2 _ _ _ HX.out
    replace hfr := hfr.trans hfr0
    have r0 : w'.cell? ⟨w.heap.size, 0, none⟩ = some (.slice A l.length c) := blk_get hx
    replace HX := Lib.hid hx
    clear hcp0 hfr0 hx
    replace hsz : (pBegin s).out.length + l.length + 1 ≤ 1000000000 := hsz
    replace hnz : (pBegin s).now.length + l.length ≤ 1000000000 := hnz
    go_wp2_with fail
    go_loopw [13] (fun i wr => ∃ k, k ≤ l.length ∧ i = .int .i64 (k : Nat) ∧ PRel w0 w wr g ifs (pBegin s) ⟨l, sp, true, ct⟩ A c k) (fun i _ => l.length - (intOf i).toNat)
    case atStart => exact ⟨0, Nat.zero_le _, rfl, h1, hfr, HX.out⟩
    case round =>
      clear h1 hfr HX
      obtain ⟨k, hk, rfl, hcp, hfr, hx⟩ := hrel
      simp only at hcp hx
      by_cases hlt : k < l.length
      · have hrw := Kd.C_below HR.out (hb.trans hfr.1)
        obtain ⟨ad, rfl, d0, d1⟩ := at_T39 hrw (k : Int) (by omega) (by omega)
        rw [Int.toNat_natCast] at d0 d1
        obtain ⟨x, ex⟩ : ∃ x, rd_T39 l (k : Int) = x := ⟨_, rfl⟩
        rw [ex] at d0 d1
        have HS := Lib.hid (pStep ifs sp l (pBegin s) k x hlt ex)
        obtain ⟨xc, xq⟩ := x
        simp only at d0 d1
        have hA2 : Below wr.heap.size wr (wr.alloc (.cells #[.int .u8 xc, .bool xq] 39)) := (Below.refl _ _).alloc (Nat.le_refl _) _
        have hx2 := (hA2.block _ (Array.getElem?_eq_some_iff.1 hx).1).trans hx
        have q1 : (wr.alloc (.cells #[.int .u8 xc, .bool xq] 39)).cell? ⟨w.heap.size, 1, none⟩ = some (.bool sp) := blk_get hx2
        have q0 : (wr.alloc (.cells #[.int .u8 xc, .bool xq] 39)).cell? ⟨g, 0, none⟩ = some (.string ifs) := by
          obtain ⟨_, _, _, _, hgg, _⟩ := id (CS.below hcp hA2)
          exact blk_get hgg
        have HX := Lib.hid hx
        have HCP0 := Lib.hid hcp
        clear hrw ex hx hx2 hcp
        cases sp
        · go_wp2_with fail
          go_quiet (fail)
          go_wp2_with fail
          have hW := below_drewN2 hA2 nq
          have hcp3 := CS.below HCP0.out hW
          have hx3 := (hW.block _ (Array.getElem?_eq_some_iff.1 HX.out).1).trans HX.out
          have y0 : ((wr.alloc (.cells #[.int .u8 xc, .bool xq] 39)).drewN nq).cell? ⟨wr.heap.size, 0, none⟩ = some (.int .u8 xc) := blk_get (heap_alloc_new wr _)
          have y1 : ((wr.alloc (.cells #[.int .u8 xc, .bool xq] 39)).drewN nq).cell? ⟨wr.heap.size, 1, none⟩ = some (.bool xq) := blk_get (heap_alloc_new wr _)
          have HN := Lib.hid (HS.out.trans (if_neg (by simp)))
          have hfr3 : Fr w0.heap.size w ((wr.alloc (.cells #[.int .u8 xc, .bool xq] 39)).drewN nq) := hfr.trans (Fr.of_below hW (Nat.le_trans hB hfr.1.size))
          clear HCP0 HS hW hA2 hfr q0 q1
          generalize (wr.alloc (.cells #[.int .u8 xc, .bool xq] 39)).drewN nq = W3 at *
          have hlen3 := pFold_out ifs false (l.take k) (pBegin s)
          rw [List.length_take] at hlen3
          generalize hT : (l.take k).foldl (pChar ifs false) (pBegin s) = T at *
          clear hT
          obtain ⟨out, now, op, wh⟩ := T
          simp only at hlen3
          obtain ⟨f, ov, nv, ovs, hg, hBg, ho, hl, hi, hn⟩ := hcp3
          obtain ⟨A2, k2, rfl, _, _⟩ := Kd.R_reads hn
          obtain ⟨hf, inner, hnr, hrp⟩ := hn
          have hnr : W3.ownsRow w0.heap.size 39 2 (.slice A2 now.length k2) now.length inner := hnr
          have z2 : W3.cell? ⟨g, 2, none⟩ = some (.slice A2 now.length k2) := blk_get hg
          obtain ⟨i0, hi0, hz0, hz1, hz2⟩ := info_parts info39'
          have hA := Below.refl W3.heap.size W3 |>.alloc (Nat.le_refl _) (.cells #[.int .u8 xc, .bool xq] 39) |>.drew
          have HOW := Lib.hid (pw_own_below hnr hA)
          have HNW := Lib.hid (news_two W3 (.int .u8 xc) (.bool xq) 39)
          have hgl := (Array.getElem?_eq_some_iff.1 hg).1
          have hne : some g ≠ (Value.slice A2 now.length k2).ownBlock := fun he => by
            obtain ⟨cells, hc⟩ := own_typed hnr g he.symm
            rw [hg] at hc
            injection hc with hc
            injection hc with _ ht
            exact absurd ht (by decide)
          have HK := Lib.hid (fun (w1 : World) (hgr : ((W3.alloc (.cells #[.int .u8 xc, .bool xq] 39)).drew).grownBy w1 (Value.slice A2 now.length k2).ownBlock) =>
            (show w1.heap[g]? = some (.cells #[.string ifs, ov, .slice A2 now.length k2, .bool op, .bool wh] 48 (0, 0)) from
              (hgr.block g (Nat.lt_of_lt_of_le hgl hA.size) hne).trans ((hA.block g hgl).trans hg)))
          have hbytes : (now.length + 1) * 2 ≤ 140737488355328 := by omega
          have hmax : now.length + 1 ≤ maxLen := by unfold maxLen; omega
          have hbase : w0.heap.size ≤ ((W3.alloc (.cells #[.int .u8 xc, .bool xq] 39)).drew).heap.size := Nat.le_trans hBg (Nat.le_trans (Nat.le_of_lt hgl) hA.size)
          have HA := Lib.hid hA
          have HG := Lib.hid hg
          have HX3 := Lib.hid hx3
          have HFR := Lib.hid hfr3
          have HREST := Lib.hid (And.intro ho (And.intro hl (And.intro hi (And.intro hf (And.intro hnr hrp)))))
          clear hg ho hl hi hf hnr hrp hA hx3 hfr3 hne
          go_region_law (refine step_append_lies _ rfl (.tmp 44) (.tmp 46) 40 rfl w0.heap.size 39 i0 (.agg #[(.int .u8 0), (.bool false)]) 2 2 Tryd.underlying40 hi0 hz0 hz1 hz2 rfl (by decide) (.slice A2 now.length k2) now.length inner (by simp [Act.eval]) HOW.out ⟨W3.heap.size, 0, none⟩ 1 1 [.int .u8 xc, .bool xq] (by simp [Act.eval]) rfl HNW.out (one_two xc xq) (by decide) hmax hbytes hbase (W3.heap.size + 1) (by simp) ?_; intro g1 cap1 w1 hown1 hgr1 hat1 hlt1; have hg1 := HK.out w1 hgr1; have v2 : w1.cell? ⟨g, 2, none⟩ = some (.slice A2 now.length k2) := blk_get hg1; have e2 : w1.frozen? ⟨g, 2, none⟩ = false := blk_free hg1; have HG1 := Lib.hid hg1; have HGR := Lib.hid hgr1; have HOWN := Lib.hid hown1; have HAT := Lib.hid hat1; clear hg1 hgr1 hown1 hat1)
          all_goals
            have HF := CS.add (w := W3) ⟨xc, xq⟩ HG.out hBg HREST.out.1 HREST.out.2.1 HREST.out.2.2.1 HREST.out.2.2.2.1 HREST.out.2.2.2.2.1 HREST.out.2.2.2.2.2 HA.out hbase HGR.out HG1.out HOWN.out (fun k hk => by
              rcases HAT.out with h | h
              · exact .inl (by rw [h]; exact hk)
              · exact .inr (by rw [Value.ownBlock] at hk; injection hk with hk; simp only at hk; omega))
            have HF := Lib.hid HF
            go_wp2_with fail
            refine (fields_begin _ g _ ifs _ _ _ _ HF.out.1).mono ?_
            rintro e w' ⟨rfl, hcp4, hfr4⟩
            have HC4 := Lib.hid hcp4
            have HF4 := Lib.hid hfr4
            clear hcp4 hfr4
            go_wp2_with fail
            go_roundw
            case rel => exact ⟨k + 1, by omega, by go_num, by show CP _ _ _ _ _; rw [HN.out]; exact HC4.out, HFR.out.trans (HF.out.2.trans HF4.out), HF4.out.2 _ _ _ (HF.out.2.2 _ _ _ HX3.out)⟩
            case measure => simp [intOf]; omega
        · cases xq
          · by_cases hin : 0 ≤ Lib.indexByte ifs.data.toList (UInt8.ofNat xc.toNat)
            · go_wp2_with fail
              go_quiet ((go_at_call 41; exact Calls.quiet_of_same (Tryd.strings_IndexByte _ _ _)))
              go_wp2_with fail
              have hW := below_drewN2 hA2 nq
              have hcp3 := CS.below HCP0.out hW
              have hx3 := (hW.block _ (Array.getElem?_eq_some_iff.1 HX.out).1).trans HX.out
              have HN := Lib.hid (HS.out.trans (if_pos ⟨rfl, rfl, hin⟩))
              have hfr3 : Fr w0.heap.size w ((wr.alloc (.cells #[.int .u8 xc, .bool false] 39)).drewN nq) := hfr.trans (Fr.of_below hW (Nat.le_trans hB hfr.1.size))
              clear HCP0 HS hW hA2 hfr q0 q1
              have hlen3 := pFold_out ifs true (l.take k) (pBegin s)
              rw [List.length_take] at hlen3
              have HM := Lib.hid (fun b => fields_mark _ g _ ifs _ b hcp3 (by omega))
              have HX3 := Lib.hid hx3
              have HFR := Lib.hid hfr3
              clear hx3 hfr3 hcp3
              refine (Tryd.strings_IndexByte _ _ _).mono ?_
              rintro e w' ⟨rfl, rfl⟩
              go_wp2_with fail
              refine (HM.out _).mono ?_
              rintro e w' ⟨rfl, hcp4, hfr4⟩
              have HC4 := Lib.hid hcp4
              have HF4 := Lib.hid hfr4
              clear hcp4 hfr4
              go_wp2_with fail
              go_roundw
              case rel => exact ⟨k + 1, by omega, by go_num, by show CP _ _ _ _ _; rw [HN.out]; exact HC4.out, HFR.out.trans HF4.out, HF4.out.2 _ _ _ HX3.out⟩
              case measure => simp [intOf]; omega
            · have hin : Lib.indexByte ifs.data.toList (UInt8.ofNat xc.toNat) < 0 := by omega
              go_wp2_with fail
              go_quiet ((go_at_call 41; exact Calls.quiet_of_same (Tryd.strings_IndexByte _ _ _)))
              go_wp2_with fail
              have hW := below_drewN2 hA2 nq
              have hcp3 := CS.below HCP0.out hW
              have hx3 := (hW.block _ (Array.getElem?_eq_some_iff.1 HX.out).1).trans HX.out
              have y0 : ((wr.alloc (.cells #[.int .u8 xc, .bool false] 39)).drewN nq).cell? ⟨wr.heap.size, 0, none⟩ = some (.int .u8 xc) := blk_get (heap_alloc_new wr _)
              have y1 : ((wr.alloc (.cells #[.int .u8 xc, .bool false] 39)).drewN nq).cell? ⟨wr.heap.size, 1, none⟩ = some (.bool false) := blk_get (heap_alloc_new wr _)
              have HN := Lib.hid (HS.out.trans (if_neg (fun h => absurd h.2.2 (by show ¬ 0 ≤ Lib.indexByte ifs.data.toList (UInt8.ofNat xc.toNat); omega))))
              have hfr3 : Fr w0.heap.size w ((wr.alloc (.cells #[.int .u8 xc, .bool false] 39)).drewN nq) := hfr.trans (Fr.of_below hW (Nat.le_trans hB hfr.1.size))
              clear HCP0 HS hW hA2 hfr q0 q1
              generalize (wr.alloc (.cells #[.int .u8 xc, .bool false] 39)).drewN nq = W3 at *
              have hlen3 := pFold_out ifs true (l.take k) (pBegin s)
              rw [List.length_take] at hlen3
              generalize hT : (l.take k).foldl (pChar ifs true) (pBegin s) = T at *
              clear hT
              obtain ⟨out, now, op, wh⟩ := T
              simp only at hlen3
              obtain ⟨f, ov, nv, ovs, hg, hBg, ho, hl, hi, hn⟩ := hcp3
              obtain ⟨A2, k2, rfl, _, _⟩ := Kd.R_reads hn
              obtain ⟨hf, inner, hnr, hrp⟩ := hn
              have hnr : W3.ownsRow w0.heap.size 39 2 (.slice A2 now.length k2) now.length inner := hnr
              have z2 : W3.cell? ⟨g, 2, none⟩ = some (.slice A2 now.length k2) := blk_get hg
              obtain ⟨i0, hi0, hz0, hz1, hz2⟩ := info_parts info39'
              have hA := Below.refl W3.heap.size W3 |>.alloc (Nat.le_refl _) (.cells #[.int .u8 xc, .bool false] 39) |>.drew
              have HOW := Lib.hid (pw_own_below hnr hA)
              have HNW := Lib.hid (news_two W3 (.int .u8 xc) (.bool false) 39)
              have hgl := (Array.getElem?_eq_some_iff.1 hg).1
              have hne : some g ≠ (Value.slice A2 now.length k2).ownBlock := fun he => by
                obtain ⟨cells, hc⟩ := own_typed hnr g he.symm
                rw [hg] at hc
                injection hc with hc
                injection hc with _ ht
                exact absurd ht (by decide)
              have HK := Lib.hid (fun (w1 : World) (hgr : ((W3.alloc (.cells #[.int .u8 xc, .bool false] 39)).drew).grownBy w1 (Value.slice A2 now.length k2).ownBlock) =>
                (show w1.heap[g]? = some (.cells #[.string ifs, ov, .slice A2 now.length k2, .bool op, .bool wh] 48 (0, 0)) from
                  (hgr.block g (Nat.lt_of_lt_of_le hgl hA.size) hne).trans ((hA.block g hgl).trans hg)))
              have hbytes : (now.length + 1) * 2 ≤ 140737488355328 := by omega
              have hmax : now.length + 1 ≤ maxLen := by unfold maxLen; omega
              have hbase : w0.heap.size ≤ ((W3.alloc (.cells #[.int .u8 xc, .bool false] 39)).drew).heap.size := Nat.le_trans hBg (Nat.le_trans (Nat.le_of_lt hgl) hA.size)
              have HA := Lib.hid hA
              have HG := Lib.hid hg
              have HX3 := Lib.hid hx3
              have HFR := Lib.hid hfr3
              have HREST := Lib.hid (And.intro ho (And.intro hl (And.intro hi (And.intro hf (And.intro hnr hrp)))))
              clear hg ho hl hi hf hnr hrp hA hx3 hfr3 hne
              go_region_law (refine step_append_lies _ rfl (.tmp 44) (.tmp 46) 40 rfl w0.heap.size 39 i0 (.agg #[(.int .u8 0), (.bool false)]) 2 2 Tryd.underlying40 hi0 hz0 hz1 hz2 rfl (by decide) (.slice A2 now.length k2) now.length inner (by simp [Act.eval]) HOW.out ⟨W3.heap.size, 0, none⟩ 1 1 [.int .u8 xc, .bool false] (by simp [Act.eval]) rfl HNW.out (one_two xc false) (by decide) hmax hbytes hbase (W3.heap.size + 1) (by simp) ?_; intro g1 cap1 w1 hown1 hgr1 hat1 hlt1; have hg1 := HK.out w1 hgr1; have v2 : w1.cell? ⟨g, 2, none⟩ = some (.slice A2 now.length k2) := blk_get hg1; have e2 : w1.frozen? ⟨g, 2, none⟩ = false := blk_free hg1; have HG1 := Lib.hid hg1; have HGR := Lib.hid hgr1; have HOWN := Lib.hid hown1; have HAT := Lib.hid hat1; clear hg1 hgr1 hown1 hat1)
              all_goals
                have HF := CS.add (w := W3) ⟨xc, false⟩ HG.out hBg HREST.out.1 HREST.out.2.1 HREST.out.2.2.1 HREST.out.2.2.2.1 HREST.out.2.2.2.2.1 HREST.out.2.2.2.2.2 HA.out hbase HGR.out HG1.out HOWN.out (fun k hk => by
                  rcases HAT.out with h | h
                  · exact .inl (by rw [h]; exact hk)
                  · exact .inr (by rw [Value.ownBlock] at hk; injection hk with hk; simp only at hk; omega))
                have HF := Lib.hid HF
                go_wp2_with fail
                refine (fields_begin _ g _ ifs _ _ _ _ HF.out.1).mono ?_
                rintro e w' ⟨rfl, hcp4, hfr4⟩
                have HC4 := Lib.hid hcp4
                have HF4 := Lib.hid hfr4
                clear hcp4 hfr4
                go_wp2_with fail
                go_roundw
                case rel => exact ⟨k + 1, by omega, by go_num, by show CP _ _ _ _ _; rw [HN.out]; exact HC4.out, HFR.out.trans (HF.out.2.trans HF4.out), HF4.out.2 _ _ _ (HF.out.2.2 _ _ _ HX3.out)⟩
                case measure => simp [intOf]; omega
          · go_wp2_with fail
            go_quiet (fail)
            go_wp2_with fail
            have hW := below_drewN2 hA2 nq
            have hcp3 := CS.below HCP0.out hW
            have hx3 := (hW.block _ (Array.getElem?_eq_some_iff.1 HX.out).1).trans HX.out
            have y0 : ((wr.alloc (.cells #[.int .u8 xc, .bool true] 39)).drewN nq).cell? ⟨wr.heap.size, 0, none⟩ = some (.int .u8 xc) := blk_get (heap_alloc_new wr _)
            have y1 : ((wr.alloc (.cells #[.int .u8 xc, .bool true] 39)).drewN nq).cell? ⟨wr.heap.size, 1, none⟩ = some (.bool true) := blk_get (heap_alloc_new wr _)
            have HN := Lib.hid (HS.out.trans (if_neg (by simp)))
            have hfr3 : Fr w0.heap.size w ((wr.alloc (.cells #[.int .u8 xc, .bool true] 39)).drewN nq) := hfr.trans (Fr.of_below hW (Nat.le_trans hB hfr.1.size))
            clear HCP0 HS hW hA2 hfr q0 q1
            generalize (wr.alloc (.cells #[.int .u8 xc, .bool true] 39)).drewN nq = W3 at *
            have hlen3 := pFold_out ifs true (l.take k) (pBegin s)
            rw [List.length_take] at hlen3
            generalize hT : (l.take k).foldl (pChar ifs true) (pBegin s) = T at *
            clear hT
            obtain ⟨out, now, op, wh⟩ := T
            simp only at hlen3
            obtain ⟨f, ov, nv, ovs, hg, hBg, ho, hl, hi, hn⟩ := hcp3
            obtain ⟨A2, k2, rfl, _, _⟩ := Kd.R_reads hn
            obtain ⟨hf, inner, hnr, hrp⟩ := hn
            have hnr : W3.ownsRow w0.heap.size 39 2 (.slice A2 now.length k2) now.length inner := hnr
            have z2 : W3.cell? ⟨g, 2, none⟩ = some (.slice A2 now.length k2) := blk_get hg
            obtain ⟨i0, hi0, hz0, hz1, hz2⟩ := info_parts info39'
            have hA := Below.refl W3.heap.size W3 |>.alloc (Nat.le_refl _) (.cells #[.int .u8 xc, .bool true] 39) |>.drew
            have HOW := Lib.hid (pw_own_below hnr hA)
            have HNW := Lib.hid (news_two W3 (.int .u8 xc) (.bool true) 39)
            have hgl := (Array.getElem?_eq_some_iff.1 hg).1
            have hne : some g ≠ (Value.slice A2 now.length k2).ownBlock := fun he => by
              obtain ⟨cells, hc⟩ := own_typed hnr g he.symm
              rw [hg] at hc
              injection hc with hc
              injection hc with _ ht
              exact absurd ht (by decide)
            have HK := Lib.hid (fun (w1 : World) (hgr : ((W3.alloc (.cells #[.int .u8 xc, .bool true] 39)).drew).grownBy w1 (Value.slice A2 now.length k2).ownBlock) =>
              (show w1.heap[g]? = some (.cells #[.string ifs, ov, .slice A2 now.length k2, .bool op, .bool wh] 48 (0, 0)) from
                (hgr.block g (Nat.lt_of_lt_of_le hgl hA.size) hne).trans ((hA.block g hgl).trans hg)))
            have hbytes : (now.length + 1) * 2 ≤ 140737488355328 := by omega
            have hmax : now.length + 1 ≤ maxLen := by unfold maxLen; omega
            have hbase : w0.heap.size ≤ ((W3.alloc (.cells #[.int .u8 xc, .bool true] 39)).drew).heap.size := Nat.le_trans hBg (Nat.le_trans (Nat.le_of_lt hgl) hA.size)
            have HA := Lib.hid hA
            have HG := Lib.hid hg
            have HX3 := Lib.hid hx3
            have HFR := Lib.hid hfr3
            have HREST := Lib.hid (And.intro ho (And.intro hl (And.intro hi (And.intro hf (And.intro hnr hrp)))))
            clear hg ho hl hi hf hnr hrp hA hx3 hfr3 hne
            go_region_law (refine step_append_lies _ rfl (.tmp 44) (.tmp 46) 40 rfl w0.heap.size 39 i0 (.agg #[(.int .u8 0), (.bool false)]) 2 2 Tryd.underlying40 hi0 hz0 hz1 hz2 rfl (by decide) (.slice A2 now.length k2) now.length inner (by simp [Act.eval]) HOW.out ⟨W3.heap.size, 0, none⟩ 1 1 [.int .u8 xc, .bool true] (by simp [Act.eval]) rfl HNW.out (one_two xc true) (by decide) hmax hbytes hbase (W3.heap.size + 1) (by simp) ?_; intro g1 cap1 w1 hown1 hgr1 hat1 hlt1; have hg1 := HK.out w1 hgr1; have v2 : w1.cell? ⟨g, 2, none⟩ = some (.slice A2 now.length k2) := blk_get hg1; have e2 : w1.frozen? ⟨g, 2, none⟩ = false := blk_free hg1; have HG1 := Lib.hid hg1; have HGR := Lib.hid hgr1; have HOWN := Lib.hid hown1; have HAT := Lib.hid hat1; clear hg1 hgr1 hown1 hat1)
            all_goals
              have HF := CS.add (w := W3) ⟨xc, true⟩ HG.out hBg HREST.out.1 HREST.out.2.1 HREST.out.2.2.1 HREST.out.2.2.2.1 HREST.out.2.2.2.2.1 HREST.out.2.2.2.2.2 HA.out hbase HGR.out HG1.out HOWN.out (fun k hk => by
                rcases HAT.out with h | h
                · exact .inl (by rw [h]; exact hk)
                · exact .inr (by rw [Value.ownBlock] at hk; injection hk with hk; simp only at hk; omega))
              have HF := Lib.hid HF
              go_wp2_with fail
              refine (fields_begin _ g _ ifs _ _ _ _ HF.out.1).mono ?_
              rintro e w' ⟨rfl, hcp4, hfr4⟩
              have HC4 := Lib.hid hcp4
              have HF4 := Lib.hid hfr4
              clear hcp4 hfr4
              go_wp2_with fail
              go_roundw
              case rel => exact ⟨k + 1, by omega, by go_num, by show CP _ _ _ _ _; rw [HN.out]; exact HC4.out, HFR.out.trans (HF.out.2.trans HF4.out), HF4.out.2 _ _ _ (HF.out.2.2 _ _ _ HX3.out)⟩
              case measure => simp [intOf]; omega
      · have hk' : k = l.length := by omega
        subst hk'
        rw [List.take_length] at hcp
        have q3 : wr.cell? ⟨w.heap.size, 3, none⟩ = some (.bool ct) := blk_get hx
        have hlen4 := pFold_out ifs sp l (pBegin s)
        have HFR := Lib.hid hfr
        have HCP := Lib.hid hcp
        have HE := Lib.hid (fields_end w0.heap.size g wr ifs _ _ _ _ false hcp (by omega))
        clear hcp hfr hx
        cases ct
        · go_wp2_with fail
          go_end0
          exact ⟨rfl, HCP.out, HFR.out⟩
        · go_wp2_with fail
          refine HE.out.mono ?_
          rintro e w' ⟨rfl, hcp4, hfr4⟩
          have HC4 := Lib.hid hcp4
          have HF4 := Lib.hid hfr4
          clear hcp4 hfr4
          go_wp2_with fail
          go_end0
          exact ⟨rfl, HC4.out, HFR.out.trans HF4.out⟩

end Go.Proofs.YtfmfncknpifjcaaDoor.Ext

/- Proved: what the calls of the cutter's begin, end and mark do to the cutter (its row of rows, the row under way, its flags), and what they keep. Conditions: the cutter is as CS tells it; fewer than 10 to the 9 fields. -/
import Derived.Test.YtfmfncknpifjcaaDoorP0
import Derived.Test.YtfmfncknpifjcaaDoorShelf
import Derived.Test.YtfmfncknpifjcaaDoorWApart
import Derived.Lib.Hide
import Derived.Outline
import Derived.Deep.RegionLaw
import Derived.Deep.AppendLies
namespace Go.Proofs.YtfmfncknpifjcaaDoor.Ext
open Go.RowKit Go.Proofs.YtfmfncknpifjcaaDoor.P Go.Proofs.YtfmfncknpifjcaaDoorW.PrintWords

/-- The cutter at block g. f tells of a block which field's it is (that under way: the next). -/
def CS (B g : Nat) (W : World) (ifs : ByteArray) (out : List (List S39)) (now : List S39) (op wh : Bool) : Prop :=
  ∃ (f : Nat → Nat) (ov nv : Value) (ovs : List Value),
    W.heap[g]? = some (.cells #[.string ifs, ov, nv, .bool op, .bool wh] 48 (0, 0)) ∧ B ≤ g ∧
    W.ownsRow B 40 1 ov ovs.length ovs ∧ ovs.length = out.length ∧
    (∀ j v l, ovs[j]? = some v → out[j]? = some l → Kd.R k39 39 W B (fun k => f k = j) v l) ∧
    Kd.R k39 39 W B (fun k => f k = out.length) nv now

theorem CS.lt {B g : Nat} {W : World} {ifs : ByteArray} {out : List (List S39)} {now : List S39} {op wh : Bool} (h : CS B g W ifs out now op wh) : g < W.heap.size := by
  obtain ⟨_, _, _, _, hg, _⟩ := h
  exact (Array.getElem?_eq_some_iff.1 hg).1
theorem CS.below {B g : Nat} {W W1 : World} {ifs : ByteArray} {out : List (List S39)} {now : List S39} {op wh : Bool} (h : CS B g W ifs out now op wh) (hb : Below W.heap.size W W1) : CS B g W1 ifs out now op wh := by
  have hlt := h.lt
  obtain ⟨f, ov, nv, ovs, hg, hB, ho, hl, hi, hn⟩ := h
  exact ⟨f, ov, nv, ovs, by rw [hb.block g hlt]; exact hg, hB, pw_own_below ho hb, hl, fun j v l hv hl' => Kd.R_below (hi j v l hv hl') hb, Kd.R_below hn hb⟩

theorem blk_put {W : World} {g t i : Nat} {cs : Array Value} (h : W.heap[g]? = some (.cells cs t (0, 0))) (u : Value) : (W.setCell ⟨g, i, none⟩ u).heap[g]? = some (.cells (cs.setIfInBounds i u) t (0, 0)) :=
  heap_setCell_same _ _ _ _ _ _ h
theorem blk_get {W : World} {g t i : Nat} {cs : Array Value} (h : W.heap[g]? = some (.cells cs t (0, 0))) : W.cell? ⟨g, i, none⟩ = cs[i]? := by
  unfold World.cell?
  rw [h]
  rfl
theorem blk_free {W : World} {g t i : Nat} {cs : Array Value} (h : W.heap[g]? = some (.cells cs t (0, 0))) : W.frozen? ⟨g, i, none⟩ = false := by
  unfold World.frozen?
  rw [h]
  simp

/-- A row of another type than the cutter's is none of its block. -/
theorem R_put {W : World} {B g i : Nat} {cs : Array Value} {ok : Nat → Prop} {v : Value} {l : List S39} (h : W.heap[g]? = some (.cells cs 48 (0, 0))) (hr : Kd.R k39 39 W B ok v l) (u : Value) :
    Kd.R k39 39 (W.setCell ⟨g, i, none⟩ u) B ok v l := by
  have h2 : Kd.R k39 39 W B (fun k => ok k ∧ k ≠ g) v l := Kd.R_types hr h (fun q hq => by
    have : q = 39 := by simpa [k39, Kd.iso, Kd.pair, Kd.int, Kd.bool, Kd.scalar] using hq
    omega)
  exact Kd.R_mono (Kd.R_far h2 (fun k hk => hk.2) u) (fun k hk => hk.1)
theorem own_put {W : World} {B g i : Nat} {cs : Array Value} {v : Value} {n : Nat} {l : List Value} (h : W.heap[g]? = some (.cells cs 48 (0, 0))) (hr : W.ownsRow B 40 1 v n l) (u : Value) :
    (W.setCell ⟨g, i, none⟩ u).ownsRow B 40 1 v n l := by
  refine own_move hr fun k hk => Below.heap_setCell W _ u k ?_
  rintro rfl
  obtain ⟨cells, hc⟩ := own_typed hr _ hk
  rw [h] at hc
  injection hc with hc
  injection hc with _ ht
  exact absurd ht (by decide)

/-- The two flags are written. -/
theorem CS.flags {B g : Nat} {W : World} {ifs : ByteArray} {out : List (List S39)} {now : List S39} {op wh : Bool} (h : CS B g W ifs out now op wh) (op' wh' : Bool) :
    CS B g ((W.setCell ⟨g, 3, none⟩ (.bool op')).setCell ⟨g, 4, none⟩ (.bool wh')) ifs out now op' wh' := by
  obtain ⟨f, ov, nv, ovs, hg, hB, ho, hl, hi, hn⟩ := h
  have h1 := blk_put (i := 3) hg (.bool op')
  exact ⟨f, ov, nv, ovs, blk_put (i := 4) h1 (.bool wh'), hB, own_put h1 (own_put hg ho _) _, hl, fun j v l hv hl' => R_put h1 (R_put hg (hi j v l hv hl') _) _, R_put h1 (R_put hg hn _) _⟩
theorem CS.white {B g : Nat} {W : World} {ifs : ByteArray} {out : List (List S39)} {now : List S39} {op wh : Bool} (h : CS B g W ifs out now op wh) (wh' : Bool) :
    CS B g (W.setCell ⟨g, 4, none⟩ (.bool wh')) ifs out now op wh' := by
  obtain ⟨f, ov, nv, ovs, hg, hB, ho, hl, hi, hn⟩ := h
  exact ⟨f, ov, nv, ovs, blk_put (i := 4) hg (.bool wh'), hB, own_put hg ho _, hl, fun j v l hv hl' => R_put hg (hi j v l hv hl') _, R_put hg hn _⟩

/-- What a call of the cutter's keeps: what lies below B, and every box of a piece. -/
def Fr (B : Nat) (w w' : World) : Prop := Below B w w' ∧ ∀ (k : Nat) (cs : Array Value) (fr : Nat × Nat), w.heap[k]? = some (.cells cs 42 fr) → w'.heap[k]? = some (.cells cs 42 fr)
theorem Fr.refl (B : Nat) (w : World) : Fr B w w := ⟨Below.refl _ _, fun _ _ _ h => h⟩
theorem Fr.trans {B : Nat} {a b c : World} (h : Fr B a b) (k : Fr B b c) : Fr B a c := ⟨h.1.trans k.1, fun i cs fr hi => k.2 i cs fr (h.2 i cs fr hi)⟩
theorem Fr.of_below {B : Nat} {w W : World} (h : Below w.heap.size w W) (hB : B ≤ w.heap.size) : Fr B w W :=
  ⟨h.mono hB, fun k cs fr hk => (h.block k (Array.getElem?_eq_some_iff.1 hk).1).trans hk⟩
theorem Fr.put {B g i : Nat} {w W : World} {cs : Array Value} (h : Fr B w W) (hg : W.heap[g]? = some (.cells cs 48 (0, 0))) (hB : B ≤ g) (u : Value) : Fr B w (W.setCell ⟨g, i, none⟩ u) :=
  ⟨h.1.setCell hB u, fun k c fr hk => by
    have h1 := h.2 k c fr hk
    rw [Below.heap_setCell W _ u k ?_]
    · exact h1
    · rintro rfl
      rw [hg] at h1
      injection h1 with h1
      injection h1 with _ ht
      exact absurd ht (by decide)⟩
theorem Fr.grown {B : Nat} {w W w1 : World} {row : Option Nat} {q : Nat} (h : Fr B w W) (hgr : W.grownBy w1 row) (hBW : B ≤ W.heap.size) (hr : ∀ k, row = some k → B ≤ k) (ht : ∀ k, row = some k → ∃ cells, W.heap[k]? = some (.cells cells q (0, 0))) (hq : q ≠ 42) : Fr B w w1 :=
  ⟨h.1.grown hgr hBW hr, fun k c fr hk => by
    have h1 := h.2 k c fr hk
    refine (hgr.block k (Array.getElem?_eq_some_iff.1 h1).1 fun he => ?_).trans h1
    obtain ⟨cells, hc⟩ := ht k he.symm
    rw [hc] at h1
    injection h1 with h1
    injection h1 with _ ht
    exact hq ht⟩

theorem below_put {B g : Nat} {w W : World} {i : Nat} (h : Below B w W) (hB : B ≤ g) (u : Value) : Below B w (W.setCell ⟨g, i, none⟩ u) := h.setCell hB u

theorem fields_begin (B g : Nat) (w : World) (ifs : ByteArray) (out : List (List S39)) (now : List S39) (op wh : Bool) (h : CS B g w ifs out now op wh) :
    Calls Tryd.prog 40 #[.pointer (some ⟨g, 0, none⟩)] w fun e w' => e = .returned (.tuple #[]) ∧ CS B g w' ifs out now true false ∧ Fr B w w' := by
  have hB : B ≤ g := by
    obtain ⟨_, _, _, _, _, hB, _⟩ := h
    exact hB
  have hf := h.flags true false
  obtain ⟨f, ov, nv, ovs, hg, _⟩ := h
  have c3 : w.cell? ⟨g, 3, none⟩ = some (.bool op) := blk_get hg
  have c4 : w.cell? ⟨g, 4, none⟩ = some (.bool wh) := blk_get hg
  have f3 : w.frozen? ⟨g, 3, none⟩ = false := blk_free hg
  have f4 : w.frozen? ⟨g, 4, none⟩ = false := blk_free hg
  have HF := Lib.hid hf
  have HG := Lib.hid hg
  clear hf hg
  go_enter Tryd.func40, Tryd.ntmps40
  go_wp2
  go_end0
  exact ⟨rfl, HF.out, ((Fr.refl B w).put HG.out hB _).put (blk_put HG.out _) hB _⟩

theorem info40' : (Tryd.prog.info? 40).map (fun i => (i.zero, i.size, i.bytes)) = some (some (.slice none 0 0), 1, 24) := by kernel_rfl
theorem info39' : (Tryd.prog.info? 39).map (fun i => (i.zero, i.size, i.bytes)) = some (some (.agg #[(.int .u8 0), (.bool false)]), 2, 2) := by kernel_rfl

theorem news_one (W : World) (u : Value) (t : TypeId) : ∀ j x, [u][j]? = some x → ((W.alloc (.cells #[u] t)).drew).cell? ((⟨W.heap.size, 0, none⟩ : Addr).add j) = some x := by
  intro j x hx
  have hb : ((W.alloc (.cells #[u] t)).drew).heap[W.heap.size]? = some (.cells #[u] t (0, 0)) := heap_alloc_new _ _
  match j, hx with
  | 0, hx =>
    rw [add_plain]
    rw [blk_get hb]
    exact hx

theorem R_apart {W : World} {B : Nat} {ok : Nat → Prop} {v u : Value} {l : List S39} {n : Nat} {xs : List Value} (hr : Kd.R k39 39 W B ok v l) (ho : W.ownsRow B 40 1 u n xs) :
    Kd.R k39 39 W B (fun k => ok k ∧ some k ≠ u.ownBlock) v l := by
  cases e : u.ownBlock with
  | none => exact Kd.R_mono hr fun k hk => ⟨hk, by simp⟩
  | some b =>
    obtain ⟨cells, hc⟩ := own_typed ho b e
    have h2 : Kd.R k39 39 W B (fun k => ok k ∧ k ≠ b) v l := Kd.R_types hr hc (fun q hq => by
      have : q = 39 := by simpa [k39, Kd.iso, Kd.pair, Kd.int, Kd.bool, Kd.scalar] using hq
      omega)
    exact Kd.R_mono h2 fun k hk => ⟨hk.1, fun he => hk.2 (Option.some.inj he)⟩

theorem CS.push {B g : Nat} {w W w1 : World} {ifs : ByteArray} {out : List (List S39)} {now : List S39} {op wh : Bool} {f : Nat → Nat} {ov nv : Value} {ovs : List Value} (wh' : Bool)
    (hg : w.heap[g]? = some (.cells #[.string ifs, ov, nv, .bool op, .bool wh] 48 (0, 0))) (hB : B ≤ g) (ho : w.ownsRow B 40 1 ov ovs.length ovs) (hl : ovs.length = out.length)
    (hi : ∀ j v l, ovs[j]? = some v → out[j]? = some l → Kd.R k39 39 w B (fun k => f k = j) v l) (hn : Kd.R k39 39 w B (fun k => f k = out.length) nv now)
    (hA : Below w.heap.size w W) (hBW : B ≤ W.heap.size) (hgr : W.grownBy w1 ov.ownBlock) (hg1 : w1.heap[g]? = some (.cells #[.string ifs, ov, nv, .bool op, .bool wh] 48 (0, 0)))
    {ov1 : Value} (hown : w1.ownsRow B 40 1 ov1 (ovs.length + 1) (ovs ++ [nv])) :
    CS B g ((((w1.setCell ⟨g, 1, none⟩ ov1).setCell ⟨g, 2, none⟩ (.slice none 0 0)).setCell ⟨g, 3, none⟩ (.bool false)).setCell ⟨g, 4, none⟩ (.bool wh')) ifs (out ++ [now]) [] false wh' ∧
    Fr B w ((((w1.setCell ⟨g, 1, none⟩ ov1).setCell ⟨g, 2, none⟩ (.slice none 0 0)).setCell ⟨g, 3, none⟩ (.bool false)).setCell ⟨g, 4, none⟩ (.bool wh')) := by
  have mv : ∀ (ok : Nat → Prop) v l, Kd.R k39 39 w B ok v l → Kd.R k39 39 w1 B ok v l := fun ok v l hr => by
    have h1 := Kd.R_below (R_apart hr ho) hA
    exact Kd.R_mono (Kd.R_grown h1 hgr (fun k hk => hk.2)) fun k hk => hk.1
  have b1 := blk_put (i := 1) hg1 ov1
  have b2 := blk_put (i := 2) b1 (.slice none 0 0)
  have b3 := blk_put (i := 3) b2 (.bool false)
  have b4 := blk_put (i := 4) b3 (.bool wh')
  have put : ∀ (ok : Nat → Prop) v l, Kd.R k39 39 w1 B ok v l → Kd.R k39 39 ((((w1.setCell ⟨g, 1, none⟩ ov1).setCell ⟨g, 2, none⟩ (.slice none 0 0)).setCell ⟨g, 3, none⟩ (.bool false)).setCell ⟨g, 4, none⟩ (.bool wh')) B ok v l :=
    fun ok v l hr => R_put b3 (R_put b2 (R_put b1 (R_put hg1 hr _) _) _) _
  refine ⟨⟨f, ov1, .slice none 0 0, ovs ++ [nv], b4, hB, ?_, by simp [hl], fun j v l hv hl' => ?_, Kd.R_nil _ _ _ _ _⟩, ?_⟩
  · rw [List.length_append]
    exact own_put b3 (own_put b2 (own_put b1 (own_put hg1 hown _) _) _) _
  · rcases Nat.lt_or_ge j ovs.length with hj | hj
    · rw [List.getElem?_append_left hj] at hv
      rw [List.getElem?_append_left (by omega)] at hl'
      exact put _ _ _ (mv _ _ _ (hi j v l hv hl'))
    · have hj' : j = ovs.length := by
        have := (List.getElem?_eq_some_iff.1 hv).1
        simp at this
        omega
      subst hj'
      have e1 : nv = v := by simpa using hv
      have e2 : now = l := by
        rw [hl] at hl'
        simpa using hl'
      subst e1
      subst e2
      rw [hl]
      exact put _ _ _ (mv _ _ _ hn)
  · have h1 : Fr B w W := Fr.of_below hA (Nat.le_trans hB (Nat.le_of_lt (Array.getElem?_eq_some_iff.1 hg).1))
    have h2 : Fr B w w1 := h1.grown hgr hBW (own_base ho) (own_typed (pw_own_below ho hA)) (by decide)
    exact (((h2.put hg1 hB _).put b1 hB _).put b2 hB _).put b3 hB _

set_option maxHeartbeats 1000000 in
theorem fields_end (B g : Nat) (w : World) (ifs : ByteArray) (out : List (List S39)) (now : List S39) (op wh wh' : Bool) (h : CS B g w ifs out now op wh) (hsz : out.length + 1 ≤ 1000000000) :
    Calls Tryd.prog 23 #[.pointer (some ⟨g, 0, none⟩), .bool wh'] w fun e w' => e = .returned (.tuple #[]) ∧ CS B g w' ifs (out ++ [now]) [] false wh' ∧ Fr B w w' := by
  have hlt := h.lt
  obtain ⟨f, ov, nv, ovs, hg, hB, ho, hl, hi, hn⟩ := h
  obtain ⟨A1, k1, rfl⟩ := own_slice ho
  obtain ⟨A2, k2, rfl, _, _⟩ := Kd.R_reads hn
  have c1 : w.cell? ⟨g, 1, none⟩ = some (.slice A1 ovs.length k1) := blk_get hg
  have c2 : w.cell? ⟨g, 2, none⟩ = some (.slice A2 now.length k2) := blk_get hg
  obtain ⟨i0, hi0, hz0, hz1, hz2⟩ := info_parts info40'
  have hA := Below.refl w.heap.size w |>.alloc (Nat.le_refl _) (.cells #[.slice A2 now.length k2] 40) |>.drew
  have HOW := Lib.hid (pw_own_below ho hA)
  have HNW := Lib.hid (news_one w (.slice A2 now.length k2) 40)
  have hne : some g ≠ (Value.slice A1 ovs.length k1).ownBlock := fun he => by
    obtain ⟨cells, hc⟩ := own_typed ho g he.symm
    rw [hg] at hc
    injection hc with hc
    injection hc with _ ht
    exact absurd ht (by decide)
  have HK := Lib.hid (fun (w1 : World) (hgr : ((w.alloc (.cells #[.slice A2 now.length k2] 40)).drew).grownBy w1 (Value.slice A1 ovs.length k1).ownBlock) =>
    (show w1.heap[g]? = some (.cells #[.string ifs, .slice A1 ovs.length k1, .slice A2 now.length k2, .bool op, .bool wh] 48 (0, 0)) from
      (hgr.block g (Nat.lt_of_lt_of_le hlt hA.size) hne).trans ((hA.block g hlt).trans hg)))
  have hbytes : (ovs.length + 1) * 24 ≤ 140737488355328 := by omega
  have hmax : ovs.length + 1 ≤ maxLen := by unfold maxLen; omega
  have hbase : B ≤ ((w.alloc (.cells #[.slice A2 now.length k2] 40)).drew).heap.size := Nat.le_trans hB (Nat.le_trans (Nat.le_of_lt hlt) hA.size)
  have HA := Lib.hid hA
  have HG := Lib.hid hg
  have HN := Lib.hid hn
  have HI := Lib.hid hi
  have HL := Lib.hid hl
  have HO := Lib.hid ho
  clear hg ho hn hi hl hA
  go_enter Tryd.func23, Tryd.ntmps23
  go_wp2_with fail
  go_region_law (refine step_append_lies _ rfl (.tmp 8) (.tmp 13) 28 rfl B 40 i0 (.slice none 0 0) 1 24 Tryd.underlying28 hi0 hz0 hz1 hz2 rfl (by decide) (.slice A1 ovs.length k1) ovs.length ovs (by simp [Act.eval]) HOW.out ⟨w.heap.size, 0, none⟩ 1 1 [.slice A2 now.length k2] (by simp [Act.eval]) rfl HNW.out (fun u hu => by obtain rfl := List.mem_singleton.1 hu; rfl) (by decide) hmax hbytes hbase (w.heap.size + 1) (by simp) ?_; intro g1 cap1 w1 hown1 hgr1 hat1 hlt1; have hg1 := HK.out w1 hgr1; have d1 : w1.cell? ⟨g, 1, none⟩ = some (.slice A1 ovs.length k1) := blk_get hg1; have d2 : w1.cell? ⟨g, 2, none⟩ = some (.slice A2 now.length k2) := blk_get hg1; have d3 : w1.cell? ⟨g, 3, none⟩ = some (.bool op) := blk_get hg1; have d4 : w1.cell? ⟨g, 4, none⟩ = some (.bool wh) := blk_get hg1; have e1 : w1.frozen? ⟨g, 1, none⟩ = false := blk_free hg1; have e2 : w1.frozen? ⟨g, 2, none⟩ = false := blk_free hg1; have e3 : w1.frozen? ⟨g, 3, none⟩ = false := blk_free hg1; have e4 : w1.frozen? ⟨g, 4, none⟩ = false := blk_free hg1; have HG1 := Lib.hid hg1; have HGR := Lib.hid hgr1; have HOWN := Lib.hid hown1; have HAT := Lib.hid hat1; clear hg1 hgr1 hown1 hat1)
  all_goals
    have HF := CS.push wh' HG.out hB HO.out HL.out HI.out HN.out HA.out hbase HGR.out (HK.out w1 HGR.out) HOWN.out
    have HF := Lib.hid HF
    go_wp2
    go_end0
    exact ⟨rfl, HF.out.1, HF.out.2⟩

/-- What the cutter holds. -/
structure PS where
  out : List (List S39)
  now : List S39
  op : Bool
  wh : Bool
def pEnd (white : Bool) (s : PS) : PS := ⟨s.out ++ [s.now], [], false, white⟩
def pBegin (s : PS) : PS := ⟨s.out, s.now, true, false⟩
def pMark (white : Bool) (s : PS) : PS := if s.op then pEnd white s else if white then s else if s.wh then ⟨s.out, s.now, s.op, false⟩ else pEnd false s
def pChar (ifs : ByteArray) (split : Bool) (s : PS) (c : S39) : PS :=
  if split = true ∧ c.f1 = false ∧ 0 ≤ Lib.indexByte ifs.data.toList (UInt8.ofNat c.f0.toNat) then pMark (decide (0 ≤ Lib.indexByte [32, 9, 10] (UInt8.ofNat c.f0.toNat))) s
  else pBegin ⟨s.out, s.now ++ [c], s.op, s.wh⟩
def pPiece (ifs : ByteArray) (s : PS) (p : S42) : PS :=
  let s1 := if p.f2 then pBegin s else s
  let s2 := p.f0.foldl (pChar ifs p.f1) s1
  if p.f3 then pEnd false s2 else s2
def CP (B g : Nat) (W : World) (ifs : ByteArray) (s : PS) : Prop := CS B g W ifs s.out s.now s.op s.wh

set_option maxHeartbeats 1000000 in
theorem fields_mark (B g : Nat) (w : World) (ifs : ByteArray) (s : PS) (white : Bool) (h : CP B g w ifs s) (hsz : s.out.length + 1 ≤ 1000000000) :
    Calls Tryd.prog 42 #[.pointer (some ⟨g, 0, none⟩), .bool white] w fun e w' => e = .returned (.tuple #[]) ∧ CP B g w' ifs (pMark white s) ∧ Fr B w w' := by
  obtain ⟨out, now, op, wh⟩ := s
  have h : CS B g w ifs out now op wh := h
  have hsz : out.length + 1 ≤ 1000000000 := hsz
  have hE := fun b => fields_end B g w ifs out now op wh b h hsz
  have hWt := h.white false
  have hB : B ≤ g := by
    obtain ⟨_, _, _, _, _, hB, _⟩ := h
    exact hB
  obtain ⟨f, ov, nv, ovs, hg, _⟩ := id h
  have c3 : w.cell? ⟨g, 3, none⟩ = some (.bool op) := blk_get hg
  have c4 : w.cell? ⟨g, 4, none⟩ = some (.bool wh) := blk_get hg
  have f4 : w.frozen? ⟨g, 4, none⟩ = false := blk_free hg
  have HG := Lib.hid hg
  have HE := Lib.hid hE
  have HW := Lib.hid hWt
  have HH := Lib.hid h
  clear hE hWt hg h
  cases op
  · cases white
    · cases wh
      · go_enter Tryd.func42, Tryd.ntmps42
        go_wp2_with fail
        refine (HE.out false).mono ?_
        rintro e w' ⟨rfl, h1, h2⟩
        have h1 := Lib.hid h1
        go_wp2_with fail
        go_end0
        exact ⟨rfl, h1.out, h2⟩
      · go_enter Tryd.func42, Tryd.ntmps42
        go_wp2_with fail
        go_end0
        exact ⟨rfl, HW.out, (Fr.refl B w).put HG.out hB _⟩
    · go_enter Tryd.func42, Tryd.ntmps42
      go_wp2_with fail
      go_end0
      exact ⟨rfl, HH.out, Fr.refl _ _⟩
  · go_enter Tryd.func42, Tryd.ntmps42
    go_wp2_with fail
    refine (HE.out white).mono ?_
    rintro e w' ⟨rfl, h1, h2⟩
    have h1 := Lib.hid h1
    go_wp2_with fail
    go_end0
    exact ⟨rfl, h1.out, h2⟩

theorem news_two (W : World) (u v : Value) (t : TypeId) : ∀ j x, [u, v][j]? = some x → ((W.alloc (.cells #[u, v] t)).drew).cell? ((⟨W.heap.size, 0, none⟩ : Addr).add j) = some x := by
  intro j x hx
  have hb : ((W.alloc (.cells #[u, v] t)).drew).heap[W.heap.size]? = some (.cells #[u, v] t (0, 0)) := heap_alloc_new _ _
  match j, hx with
  | 0, hx =>
    rw [add_plain, blk_get hb]
    exact hx
  | 1, hx =>
    rw [add_plain, blk_get hb]
    exact hx

theorem CS.add {B g : Nat} {w W w1 : World} {ifs : ByteArray} {out : List (List S39)} {now : List S39} {op wh : Bool} {f : Nat → Nat} {ov nv : Value} {ovs inner : List Value} (x : S39)
    (hg : w.heap[g]? = some (.cells #[.string ifs, ov, nv, .bool op, .bool wh] 48 (0, 0))) (hB : B ≤ g) (ho : w.ownsRow B 40 1 ov ovs.length ovs) (hl : ovs.length = out.length)
    (hi : ∀ j v l, ovs[j]? = some v → out[j]? = some l → Kd.R k39 39 w B (fun k => f k = j) v l)
    (hf : ∀ k, nv.ownBlock = some k → f k = out.length) (hnr : w.ownsRow B 39 2 nv now.length inner) (hrp : Reps (k39.M w B (fun k => f k = out.length ∧ some k ≠ nv.ownBlock)) 2 now inner)
    (hA : Below w.heap.size w W) (hBW : B ≤ W.heap.size) (hgr : W.grownBy w1 nv.ownBlock) (hg1 : w1.heap[g]? = some (.cells #[.string ifs, ov, nv, .bool op, .bool wh] 48 (0, 0)))
    {nv1 : Value} (hown : w1.ownsRow B 39 2 nv1 (now.length + 1) (inner ++ [.int .u8 x.f0, .bool x.f1])) (hat : ∀ k, nv1.ownBlock = some k → nv.ownBlock = some k ∨ w.heap.size ≤ k) :
    CS B g (w1.setCell ⟨g, 2, none⟩ nv1) ifs out (now ++ [x]) op wh ∧ Fr B w (w1.setCell ⟨g, 2, none⟩ nv1) := by
  have hgl := (Array.getElem?_eq_some_iff.1 hg).1
  refine ⟨⟨fun k => if nv1.ownBlock = some k then out.length else f k, ov, nv1, ovs, blk_put (i := 2) hg1 nv1, hB, ?_, hl, fun j v l hv hl' => ?_, ?_⟩, ?_⟩
  · refine own_put hg1 ?_ _
    refine (pw_own_below ho hA).kept hgr ?_
    exact own_type_ne ho hnr (by decide)
  · have hj : j < out.length := (List.getElem?_eq_some_iff.1 hl').1
    have h1 := Kd.R_bound (hi j v l hv hl')
    have h2 : Kd.R k39 39 w B (fun k => f k = j ∧ k < w.heap.size ∧ some k ≠ nv.ownBlock) v l := Kd.R_mono h1 fun k hk => ⟨hk.1, hk.2.2.1, fun he => by
      have := hf k he.symm
      have := hk.1
      omega⟩
    have h3 := Kd.R_grown (Kd.R_below h2 hA) hgr (fun k hk => hk.2.2)
    refine R_put hg1 (Kd.R_mono h3 fun k hk => ?_) _
    show (if nv1.ownBlock = some k then out.length else f k) = j
    rw [if_neg fun he => ?_]
    · exact hk.1
    · rcases hat k he with h | h
      · exact hk.2.2 h.symm
      · omega
  · refine R_put hg1 ⟨fun k hk => if_pos hk, inner ++ [.int .u8 x.f0, .bool x.f1], by rw [List.length_append]; exact hown, ?_⟩ _
    refine Reps.snoc (hrp.imp_ fun p c hp => ?_) (k39_mkM _ _ _ x) rfl
    have := k39_openM hp
    subst this
    exact k39_mkM _ _ _ p
  · have h1 : Fr B w W := Fr.of_below hA (Nat.le_trans hB (Nat.le_of_lt hgl))
    have h2 : Fr B w w1 := h1.grown hgr hBW (own_base hnr) (own_typed (pw_own_below hnr hA)) (by decide)
    exact h2.put hg1 hB _

end Go.Proofs.YtfmfncknpifjcaaDoor.Ext

/- printf's teller: a block of five cells (a strings.Builder's two, the words that are left, the status, how many were taken): what the Builder's methods do there. Conditions: fewer than 2 to the 47 octets. What the calls of (*printf.teller).one and once, and of printf.Format do. -/
import Derived.Test.YtagdkbncfcdhdaaDoorVShelf
import Derived.Test.YtagdkbncfcdhdaaDoorVWWords
import Derived.Shelf.Strings.Builder1
import Derived.Shelf.Strings.BuilderK
import Derived.Shelf.Strings.MapGrows
import Derived.Lib.UnsafeStr
import Derived.Lib.Hide
import Derived.Test.YtagdkbncfcdhdaaDoorVEsc
import Derived.Test.YtagdkbncfcdhdaaDoorVT1
import Derived.Test.YtagdkbncfcdhdaaDoorVQ2
import Derived.Deep.RegionWith
section
set_option linter.unusedVariables false
namespace Go.Proofs.YtagdkbncfcdhdaaDoor.Ext
open Go.RowKit Go.Proofs.YtagdkbncfcdhdaaDoorW.PrintWords
/-- The block b is a teller; p is what the Builder knows of its place; it holds the octets bs; x, y, z are the other three cells. -/
def TellerAt (B b : Nat) (p : Value) (bs : List Value) (x y z : Value) (w : World) : Prop :=
  B ≤ b ∧ ∃ v, w.heap[b]? = some (.cells #[p, v, x, y, z] 43 (0, 0)) ∧ w.ownsRowF B 5 1 v bs.length bs ∧ v.ownBlock ≠ some b
def IsTeller (B b : Nat) (bs : List Value) (x y z : Value) (w : World) : Prop :=
  TellerAt B b (.pointer none) bs x y z w ∨ TellerAt B b (.pointer (some ⟨b, 0, none⟩)) bs x y z w
theorem IsTeller.at_ {B b : Nat} {bs : List Value} {x y z : Value} {w : World} (h : IsTeller B b bs x y z w) : ∃ p, (p = .pointer none ∨ p = .pointer (some ⟨b, 0, none⟩)) ∧ TellerAt B b p bs x y z w := by
  rcases h with h | h
  · exact ⟨_, .inl rfl, h⟩
  · exact ⟨_, .inr rfl, h⟩
theorem TellerAt.lt {B b : Nat} {p : Value} {bs : List Value} {x y z : Value} {w : World} (h : TellerAt B b p bs x y z w) : b < w.heap.size := by
  obtain ⟨_, v, hb, _⟩ := h
  exact (Array.getElem?_eq_some_iff.1 hb).1
theorem IsTeller.lt {B b : Nat} {bs : List Value} {x y z : Value} {w : World} (h : IsTeller B b bs x y z w) : b < w.heap.size := h.elim TellerAt.lt TellerAt.lt
theorem TellerAt.below {B b : Nat} {p : Value} {bs : List Value} {x y z : Value} {W W' : World} (h : TellerAt B b p bs x y z W) (hb : Below W.heap.size W W') : TellerAt B b p bs x y z W' := by
  have hlt := h.lt
  obtain ⟨hB, v, hv, hown, hne⟩ := h
  exact ⟨hB, v, (hb.block b hlt).trans hv, hown.kept (row := none) ⟨hb.os, hb.tape, hb.output, hb.size, fun k hk _ => hb.block k hk⟩ (Classical.em _), hne⟩
theorem IsTeller.below {B b : Nat} {bs : List Value} {x y z : Value} {W W' : World} (h : IsTeller B b bs x y z W) (hb : Below W.heap.size W W') : IsTeller B b bs x y z W' :=
  h.elim (fun q => .inl (q.below hb)) (fun q => .inr (q.below hb))
/-- What its cells are. -/
theorem IsTeller.cells {B b : Nat} {bs : List Value} {x y z : Value} {w : World} (h : IsTeller B b bs x y z w) : w.cell? ⟨b, 2, none⟩ = some x ∧ w.cell? ⟨b, 3, none⟩ = some y ∧ w.cell? ⟨b, 4, none⟩ = some z ∧ ∀ j, w.frozen? ⟨b, j, none⟩ = false := by
  rcases h with ⟨_, v, hb, _⟩ | ⟨_, v, hb, _⟩ <;> exact ⟨by rw [Lib.cell_of_heap hb]; rfl, by rw [Lib.cell_of_heap hb]; rfl, by rw [Lib.cell_of_heap hb]; rfl, fun j => Lib.frozen_of_heap hb j⟩
theorem TellerAt.setc {B b : Nat} {p : Value} {bs : List Value} {x y z : Value} {w : World} (h : TellerAt B b p bs x y z w) (q : Value) :
    TellerAt B b p bs q y z (w.setCell ⟨b, 2, none⟩ q) ∧ TellerAt B b p bs x q z (w.setCell ⟨b, 3, none⟩ q) ∧ TellerAt B b p bs x y q (w.setCell ⟨b, 4, none⟩ q) := by
  obtain ⟨hB, v, hb, hown, hne⟩ := h
  have hk : ∀ j, (w.setCell ⟨b, j, none⟩ q).ownsRowF B 5 1 v bs.length bs := fun j =>
    hown.kept (row := some b) ⟨rfl, rfl, rfl, by simp [World.setCell], fun k _ hk => Below.heap_setCell _ _ _ _ (fun e => hk (by simp [e]))⟩ (Or.inr hne)
  refine ⟨⟨hB, v, ?_, hk 2, hne⟩, ⟨hB, v, ?_, hk 3, hne⟩, ⟨hB, v, ?_, hk 4, hne⟩⟩ <;> simp [World.setCell, Array.getElem?_modify, hb]
theorem IsTeller.set2 {B b : Nat} {bs : List Value} {x y z : Value} {w : World} (h : IsTeller B b bs x y z w) (q : Value) : IsTeller B b bs q y z (w.setCell ⟨b, 2, none⟩ q) := h.elim (fun k => .inl (k.setc q).1) (fun k => .inr (k.setc q).1)
theorem IsTeller.set3 {B b : Nat} {bs : List Value} {x y z : Value} {w : World} (h : IsTeller B b bs x y z w) (q : Value) : IsTeller B b bs x q z (w.setCell ⟨b, 3, none⟩ q) := h.elim (fun k => .inl (k.setc q).2.1) (fun k => .inr (k.setc q).2.1)
theorem IsTeller.set4 {B b : Nat} {bs : List Value} {x y z : Value} {w : World} (h : IsTeller B b bs x y z w) (q : Value) : IsTeller B b bs x y q (w.setCell ⟨b, 4, none⟩ q) := h.elim (fun k => .inl (k.setc q).2.2) (fun k => .inr (k.setc q).2.2)
theorem TellerAt.used {B b : Nat} {p : Value} {bs : List Value} {x y z : Value} {w : World} (h : TellerAt B b p bs x y z w) (q : Value) : TellerAt B b q bs x y z (w.setCell ⟨b, 0, none⟩ q) := by
  obtain ⟨hB, v, hb, hown, hne⟩ := h
  refine ⟨hB, v, by simp [World.setCell, Array.getElem?_modify, hb], ?_, hne⟩
  exact hown.kept (row := some b) ⟨rfl, rfl, rfl, by simp [World.setCell], fun k _ hk => Below.heap_setCell _ _ _ _ (fun e => hk (by simp [e]))⟩ (Or.inr hne)
theorem TellerAt.put {B b : Nat} {p v v' : Value} {bs' : List Value} {x y z : Value} {w : World} (hB : B ≤ b) (hb : w.heap[b]? = some (.cells #[p, v, x, y, z] 43 (0, 0))) (hown : w.ownsRowF B 5 1 v' bs'.length bs') :
    TellerAt B b p bs' x y z (w.setCell ⟨b, 1, none⟩ v') := by
  have hne := Lib.ownBlock_neF hown hb (by decide)
  refine ⟨hB, v', by simp [World.setCell, Array.getElem?_modify, hb], ?_, hne⟩
  exact hown.kept (row := some b) ⟨rfl, rfl, rfl, by simp [World.setCell], fun k _ hk => Below.heap_setCell _ _ _ _ (fun e => hk (by simp [e]))⟩ (Or.inr hne)
set_option maxHeartbeats 2000000 in
set_option maxRecDepth 100000 in
theorem tcopy_used (b : Nat) (w : World) (h0 : w.cell? ⟨b, 0, none⟩ = some (.pointer (some ⟨b, 0, none⟩))) :
    Calls Tryd.prog 34 #[.pointer (some ⟨b, 0, none⟩)] w fun e w' => e = .returned (.tuple #[]) ∧ w' = w := by
  obtain ⟨j, hj, _⟩ := Option.map_eq_some_iff.1 (show (Tryd.prog.info? 41).map (·.size) = some 2 by kernel_rfl)
  go_enter Tryd.func34, Tryd.ntmps34
  go_wp2
  rw [Lib.run_neq_ptr_same w _ Tryd.underlying39 hj]
  go_wp2
  go_end0
  exact ⟨rfl, rfl⟩
set_option maxHeartbeats 2000000 in
set_option maxRecDepth 100000 in
theorem tcopy_fresh (b : Nat) (w : World) (h0 : w.cell? ⟨b, 0, none⟩ = some (.pointer none)) (hsh : w.shape? b = some (43, 5)) (hfz : w.frozen? ⟨b, 0, none⟩ = false) :
    Calls Tryd.prog 34 #[.pointer (some ⟨b, 0, none⟩)] w fun e w' => e = .returned (.tuple #[]) ∧ w' = w.setCell ⟨b, 0, none⟩ (.pointer (some ⟨b, 0, none⟩)) := by
  obtain ⟨j, hj, hjs⟩ := Option.map_eq_some_iff.1 (show (Tryd.prog.info? 41).map (·.size) = some 2 by kernel_rfl)
  have hlies : liesAt Tryd.prog Tryd.prog.depth 43 (5 / Tryd.prog.cellsOf 43) 0 41 1 = true := by kernel_rfl
  go_enter Tryd.func34, Tryd.ntmps34
  go_wp2
  rw [Lib.run_to_unsafe w ⟨b, 0, none⟩ Tryd.underlying39 Tryd.underlying71 hj (by rw [hjs]; decide) hsh (Nat.zero_lt_succ 4)]
  simp only [Result.andThen]
  rw [Oper.upon_value]
  go_wp2
  rw [run_callFunc_extern Tryd.func40 (by kernel_rfl) (by kernel_rfl) (by kernel_rfl) (e := Extern.AbiNoEscape.same) (by kernel_rfl)]
  rw [Lib.run_noEscape]
  simp only [Result.andThen]
  rw [Oper.upon_value]
  go_wp2
  rw [Lib.run_from_unsafe w ⟨b, 0, none⟩ Tryd.underlying71 Tryd.underlying39 hj hsh hlies]
  simp only [Result.andThen]
  rw [Oper.upon_value]
  go_wp2
  go_end0
  exact ⟨rfl, rfl⟩
theorem tcopy (B b : Nat) (bs : List Value) (x y z : Value) (w : World) (h : IsTeller B b bs x y z w) :
    Calls Tryd.prog 34 #[.pointer (some ⟨b, 0, none⟩)] w fun e w' => e = .returned (.tuple #[]) ∧ TellerAt B b (.pointer (some ⟨b, 0, none⟩)) bs x y z w' ∧ Below B w w' := by
  rcases h with h | h
  · have hh := h
    obtain ⟨hB, v, hb, hown, hne⟩ := hh
    refine (tcopy_fresh b w (by rw [Lib.cell_of_heap hb]; rfl) (by simp [World.shape?, hb]) (Lib.frozen_of_heap hb 0)).mono ?_
    rintro e w' ⟨rfl, rfl⟩
    exact ⟨rfl, h.used _, (Below.refl B w).setCell (p := ⟨b, 0, none⟩) h.1 _⟩
  · have hh := h
    obtain ⟨hB, v, hb, hown, hne⟩ := hh
    refine (tcopy_used b w (by rw [Lib.cell_of_heap hb]; rfl)).mono ?_
    rintro e w' ⟨rfl, rfl⟩
    exact ⟨rfl, h, Below.refl B _⟩
set_option maxHeartbeats 4000000 in
set_option maxRecDepth 100000 in
theorem tWriteByte (B b : Nat) (bs : List Value) (x y z : Value) (c : Int) (w : World) (h : IsTeller B b bs x y z w) (hlen : bs.length + 1 ≤ 140737488355328) (hBw : B ≤ w.heap.size) :
    Calls Tryd.prog 29 #[.pointer (some ⟨b, 0, none⟩), .int .u8 c] w fun e w' => e = .returned .nilIface ∧ IsTeller B b (bs ++ [.int .u8 c]) x y z w' ∧ Below B w w' := by
  obtain ⟨i0, hi, hz0, hz1, hz2⟩ := info_parts (show (Tryd.prog.info? 5).map (fun i => (i.zero, i.size, i.bytes)) = some (some (.int .u8 0), 1, 1) by kernel_rfl)
  go_enter Tryd.func29, Tryd.ntmps29
  go_wp2_with fail
  refine (tcopy B b bs x y z _ h).mono ?_
  rintro e w1 ⟨rfl, h1, hb1⟩
  obtain ⟨hB, v, hbk, hown, hne⟩ := h1
  have c0 : w1.cell? ⟨b, 0, none⟩ = some (.pointer (some ⟨b, 0, none⟩)) := by rw [Lib.cell_of_heap hbk]; rfl
  have c1 : w1.cell? ⟨b, 1, none⟩ = some v := by rw [Lib.cell_of_heap hbk]; rfl
  go_wp2_with (at_builtin; refine wpList_append_ownF _ rfl _ _ 27 rfl B 5 i0 (.int .u8 0) 1 1 Tryd.underlying27 hi hz0 hz1 hz2 rfl (by decide) _ _ _ rfl (hown.alloc _) ⟨w1.heap.size, 0, none⟩ 1 1 [.int .u8 c] rfl rfl ?c1 ?c2 ?c3 ?c4 ?c5 ?_)
  case c1 =>
    intro j u hj
    match j, hj with
    | 0, hj => simp at hj; subst hj; simp [Addr.add]
  case c2 => intro u hu; simp at hu; subst hu; rfl
  case c3 => unfold maxLen; omega
  case c4 => omega
  case c5 => have := hb1.size; simp; omega
  intro v' w2 hown' hgrow _
  have hlt : b < w1.heap.size := (Array.getElem?_eq_some_iff.1 hbk).1
  have hb2 : w2.heap[b]? = some (.cells #[.pointer (some ⟨b, 0, none⟩), v, x, y, z] 43 (0, 0)) := by
    rw [hgrow.block b (by simp; omega) (fun e => hne e.symm), Lib.alloc_old w1 _ b hlt]
    exact hbk
  have d0 : w2.cell? ⟨b, 0, none⟩ = some (.pointer (some ⟨b, 0, none⟩)) := by rw [Lib.cell_of_heap hb2]; rfl
  have d1 : w2.cell? ⟨b, 1, none⟩ = some v := by rw [Lib.cell_of_heap hb2]; rfl
  have f1 : w2.frozen? ⟨b, 1, none⟩ = false := Lib.frozen_of_heap hb2 1
  obtain ⟨g, cap, rfl⟩ : ∃ g cap, v' = .slice (some ⟨g, 0, none⟩) (bs.length + 1) cap := by
    rcases hown'.2 with ⟨_, h0⟩ | ⟨g, cap, cur, fz, hv, _⟩
    · omega
    · exact ⟨g, cap, hv⟩
  go_wp2
  go_ret
  refine ⟨rfl, .inr ?_, ?_⟩
  · exact TellerAt.put hB hb2 (bs' := bs ++ [.int .u8 c]) (by simpa using hown')
  · exact ((hb1.alloc (by have := hb1.size; omega) _).grown hgrow (by have := hb1.size; simp; omega) (fun k hk => (hown.lt k hk).1)).setCell (p := ⟨b, 1, none⟩) hB _
set_option maxHeartbeats 4000000 in
set_option maxRecDepth 100000 in
theorem tWriteString (B b : Nat) (bs : List Value) (x y z : Value) (s : ByteArray) (w : World) (h : IsTeller B b bs x y z w) (hlen : bs.length + s.size ≤ 140737488355328) (hBw : B ≤ w.heap.size) :
    Calls Tryd.prog 24 #[.pointer (some ⟨b, 0, none⟩), .string s] w fun e w' => e = .returned (.tuple #[.int .i64 s.size, .nilIface]) ∧ IsTeller B b (bs ++ Lib.strCells s) x y z w' ∧ Below B w w' := by
  obtain ⟨i0, hi, hz0, hz1, hz2⟩ := info_parts (show (Tryd.prog.info? 5).map (fun i => (i.zero, i.size, i.bytes)) = some (some (.int .u8 0), 1, 1) by kernel_rfl)
  go_enter Tryd.func24, Tryd.ntmps24
  go_wp2_with fail
  refine (tcopy B b bs x y z _ h).mono ?_
  rintro e w1 ⟨rfl, h1, hb1⟩
  obtain ⟨hB, v, hbk, hown, hne⟩ := h1
  have c0 : w1.cell? ⟨b, 0, none⟩ = some (.pointer (some ⟨b, 0, none⟩)) := by rw [Lib.cell_of_heap hbk]; rfl
  have c1 : w1.cell? ⟨b, 1, none⟩ = some v := by rw [Lib.cell_of_heap hbk]; rfl
  go_wp2_with (at_builtin; refine Lib.wpList_append_own_stringF _ rfl _ _ 27 9 rfl B 5 i0 Tryd.underlying27 Tryd.underlying9 hi hz0 hz1 hz2 _ _ _ rfl hown s rfl ?c3 ?c4 ?c5 ?_)
  case c3 => unfold maxLen; omega
  case c4 => omega
  case c5 => have := hb1.size; omega
  intro v' w2 hown' hgrow _
  have hlt : b < w1.heap.size := (Array.getElem?_eq_some_iff.1 hbk).1
  have hb2 : w2.heap[b]? = some (.cells #[.pointer (some ⟨b, 0, none⟩), v, x, y, z] 43 (0, 0)) := by
    rw [hgrow.block b hlt (fun e => hne e.symm)]
    exact hbk
  have d0 : w2.cell? ⟨b, 0, none⟩ = some (.pointer (some ⟨b, 0, none⟩)) := by rw [Lib.cell_of_heap hb2]; rfl
  have d1 : w2.cell? ⟨b, 1, none⟩ = some v := by rw [Lib.cell_of_heap hb2]; rfl
  have f1 : w2.frozen? ⟨b, 1, none⟩ = false := Lib.frozen_of_heap hb2 1
  obtain ⟨ao, n', cap, rfl⟩ : ∃ ao n' cap, v' = .slice ao n' cap := by
    rcases hown'.2 with ⟨hv, _⟩ | ⟨g, cap, cur, fz, hv, _⟩
    · exact ⟨_, _, _, hv⟩
    · exact ⟨_, _, _, hv⟩
  go_wp2
  go_ret2
  refine ⟨rfl, .inr ?_, ?_⟩
  · exact TellerAt.put hB hb2 (bs' := bs ++ Lib.strCells s) (by simpa [Lib.strCells_length] using hown')
  · exact (hb1.grown hgrow (by have := hb1.size; omega) (fun k hk => (hown.lt k hk).1)).setCell (p := ⟨b, 1, none⟩) hB _
set_option maxHeartbeats 2000000 in
set_option maxRecDepth 100000 in
theorem tString_some (B b : Nat) (l : List UInt8) (x y z : Value) (w : World) (h : IsTeller B b (Lib.byteCells l) x y z w) (h0 : l ≠ []) :
    Calls Tryd.prog 21 #[.pointer (some ⟨b, 0, none⟩)] w fun e w' => e = .returned (.string ⟨l.toArray⟩) ∧ Below B w w' ∧ w'.heap[b]? = w.heap[b]? := by
  obtain ⟨p, hp, hB, v, hbk, hown, hne⟩ := h.at_
  have hl0 : l.length ≠ 0 := by simpa using h0
  rw [Lib.byteCells_length] at hown
  obtain ⟨g, cap, cur, fz, rfl, hbg, hg, hfz, hnc, hcm, hcs, htake⟩ : ∃ g cap cur fz, v = .slice (some ⟨g, 0, none⟩) l.length cap ∧ B ≤ g ∧ w.heap[g]? = some (.cells cur 5 fz) ∧ fz.2 ≤ l.length * 1 ∧ l.length ≤ cap ∧ cap ≤ maxLen ∧ cur.size = cap * 1 ∧ cur.toList.take (l.length * 1) = Lib.byteCells l := by
    rcases hown.2 with ⟨_, hz⟩ | ⟨g, cap, cur, fz, hv, r⟩
    · exact absurd hz hl0
    · exact ⟨g, cap, cur, fz, hv, r⟩
  have hgb : g ≠ b := fun e => hne (by simp [Value.ownBlock, e])
  have c1 : w.drew.cell? ⟨b, 1, none⟩ = some (.slice (some ⟨g, 0, none⟩) l.length cap) := by
    have : w.drew.heap[b]? = some (.cells #[p, .slice (some ⟨g, 0, none⟩) l.length cap, x, y, z] 43 (0, 0)) := hbk
    rw [Lib.cell_of_heap this]; rfl
  have hSD : (Builtin.unsafeSliceData_ #[27] 63 #[.slice (some ⟨g, 0, none⟩) l.length cap]).run Tryd.prog w.drew = .ok (.pointer (some ⟨g, 0, none⟩)) w.drew :=
    Lib.run_unsafeSliceData_row _ _ _ _ _ _ (by omega)
  have hUS : (Builtin.unsafeString_ #[63, 3] 9 #[.pointer (some ⟨g, 0, none⟩), .int .i64 l.length]).run Tryd.prog w.drew = .ok (.string ⟨l.toArray⟩) (w.drew.freeze ⟨g, 0, none⟩ l.length) := by
    refine Lib.run_unsafeString_row w.drew 63 3 9 5 Tryd.underlying63 (by kernel_rfl) g cur.size (by have hg' : w.drew.heap[g]? = some (.cells cur 5 fz) := hg; simp [World.shape?, hg']) l h0 (by omega) (by unfold maxLen at hcm; omega) ?_
    intro j u hx
    have := hown.cells (g := g) rfl j (.int .u8 u.toNat) (by simp [Lib.byteCells, hx])
    exact this
  have hkeep : (w.drew.freeze ⟨g, 0, none⟩ l.length).heap[b]? = w.heap[b]? := by
    unfold World.freeze
    split
    · rfl
    · simp only [Array.getElem?_modify]
      rw [if_neg hgb]
      rfl
  have mixed : Tryd.prog.follows Departure.mixedOrders = true := by kernel_rfl
  have HK := Lib.hid hkeep
  have HG := Lib.hid hbg
  clear hkeep hbg hown hg htake hbk h
  go_enter Tryd.func21, Tryd.ntmps21
  go_wp2
  go_region_o
  all_goals (go_wp2; go_ret; exact ⟨rfl, Lib.below_freeze (Below.drew (Below.refl B w)) (p := ⟨g, 0, none⟩) HG.out _, HK.out⟩)
set_option maxHeartbeats 2000000 in
set_option maxRecDepth 100000 in
theorem tString_nil (B b : Nat) (p x y z : Value) (w : World) (hbk : w.heap[b]? = some (.cells #[p, .slice none 0 0, x, y, z] 43 (0, 0))) :
    Calls Tryd.prog 21 #[.pointer (some ⟨b, 0, none⟩)] w fun e w' => e = .returned (.string ⟨#[]⟩) ∧ Below B w w' ∧ w'.heap[b]? = w.heap[b]? := by
  have hUS : ∀ (W : World) (q : Option Addr), (Builtin.unsafeString_ #[63, 3] 9 #[.pointer q, .int .i64 0]).run Tryd.prog W = .ok (.string .empty) W := fun W q => Lib.run_unsafeString_none W _ _ _ q
  have hlt : b < w.heap.size := (Array.getElem?_eq_some_iff.1 hbk).1
  have c1 : w.drew.cell? ⟨b, 1, none⟩ = some (.slice none 0 0) := by
    have : w.drew.heap[b]? = some (.cells #[p, .slice none 0 0, x, y, z] 43 (0, 0)) := hbk
    rw [Lib.cell_of_heap this]; rfl
  have hSD : (Builtin.unsafeSliceData_ #[27] 63 #[.slice none 0 0]).run Tryd.prog w.drew = .ok (.pointer none) w.drew := rfl
  have mixed : Tryd.prog.follows Departure.mixedOrders = true := by kernel_rfl
  go_enter Tryd.func21, Tryd.ntmps21
  go_wp2
  go_region_o
  all_goals (go_wp2; go_ret; exact ⟨rfl, Below.drew (Below.refl B w), rfl⟩)
set_option maxHeartbeats 2000000 in
set_option maxRecDepth 100000 in
theorem tString_room (B b : Nat) (p x y z : Value) (w : World) (g cap : Nat) (hc0 : cap ≠ 0) (hbk : w.heap[b]? = some (.cells #[p, .slice (some ⟨g, 0, none⟩) 0 cap, x, y, z] 43 (0, 0))) :
    Calls Tryd.prog 21 #[.pointer (some ⟨b, 0, none⟩)] w fun e w' => e = .returned (.string ⟨#[]⟩) ∧ Below B w w' ∧ w'.heap[b]? = w.heap[b]? := by
  have hUS : ∀ (W : World) (q : Option Addr), (Builtin.unsafeString_ #[63, 3] 9 #[.pointer q, .int .i64 0]).run Tryd.prog W = .ok (.string .empty) W := fun W q => Lib.run_unsafeString_none W _ _ _ q
  have hlt : b < w.heap.size := (Array.getElem?_eq_some_iff.1 hbk).1
  have c1 : w.drew.cell? ⟨b, 1, none⟩ = some (.slice (some ⟨g, 0, none⟩) 0 cap) := by
    have : w.drew.heap[b]? = some (.cells #[p, .slice (some ⟨g, 0, none⟩) 0 cap, x, y, z] 43 (0, 0)) := hbk
    rw [Lib.cell_of_heap this]; rfl
  have hSD : (Builtin.unsafeSliceData_ #[27] 63 #[.slice (some ⟨g, 0, none⟩) 0 cap]).run Tryd.prog w.drew = .ok (.pointer (some ⟨g, 0, none⟩)) w.drew :=
    Lib.run_unsafeSliceData_row _ _ _ _ _ _ hc0
  clear hc0
  have mixed : Tryd.prog.follows Departure.mixedOrders = true := by kernel_rfl
  go_enter Tryd.func21, Tryd.ntmps21
  go_wp2
  go_region_o
  all_goals (go_wp2; go_ret; exact ⟨rfl, Below.drew (Below.refl B w), rfl⟩)
set_option maxHeartbeats 2000000 in
set_option maxRecDepth 100000 in
theorem tString_noroom (B b : Nat) (p x y z : Value) (w : World) (g : Nat) (cur : Array Value) (fz : Nat × Nat) (hBw : B ≤ w.heap.size) (hg : w.heap[g]? = some (.cells cur 5 fz)) (hbk : w.heap[b]? = some (.cells #[p, .slice (some ⟨g, 0, none⟩) 0 0, x, y, z] 43 (0, 0))) :
    Calls Tryd.prog 21 #[.pointer (some ⟨b, 0, none⟩)] w fun e w' => e = .returned (.string ⟨#[]⟩) ∧ Below B w w' ∧ w'.heap[b]? = w.heap[b]? := by
  have hUS : ∀ (W : World) (q : Option Addr), (Builtin.unsafeString_ #[63, 3] 9 #[.pointer q, .int .i64 0]).run Tryd.prog W = .ok (.string .empty) W := fun W q => Lib.run_unsafeString_none W _ _ _ q
  have hlt : b < w.heap.size := (Array.getElem?_eq_some_iff.1 hbk).1
  have c1 : w.drew.cell? ⟨b, 1, none⟩ = some (.slice (some ⟨g, 0, none⟩) 0 0) := by
    have : w.drew.heap[b]? = some (.cells #[p, .slice (some ⟨g, 0, none⟩) 0 0, x, y, z] 43 (0, 0)) := hbk
    rw [Lib.cell_of_heap this]; rfl
  have hSD : (Builtin.unsafeSliceData_ #[27] 63 #[.slice (some ⟨g, 0, none⟩) 0 0]).run Tryd.prog w.drew = .ok (.pointer (some ⟨w.drew.heap.size, 0, none⟩)) (w.drew.alloc (.view ⟨g, 0, none⟩ 5)) :=
    Lib.run_unsafeSliceData_zero w.drew _ _ 5 Tryd.underlying63 ⟨g, 0, none⟩ 0 (5, cur.size) (by have hg' : w.drew.heap[g]? = some (.cells cur 5 fz) := hg; simp [World.shape?, hg'])
  have c2 : (w.drew.alloc (.view ⟨g, 0, none⟩ 5)).cell? ⟨b, 1, none⟩ = some (.slice (some ⟨g, 0, none⟩) 0 0) := by
    have : (w.drew.alloc (.view ⟨g, 0, none⟩ 5)).heap[b]? = _ := (Lib.alloc_old w.drew _ b hlt).trans hbk
    rw [Lib.cell_of_heap this]; rfl
  have c3 : (w.alloc (.view ⟨g, 0, none⟩ 5)).drew.cell? ⟨b, 1, none⟩ = some (.slice (some ⟨g, 0, none⟩) 0 0) := c2
  have c0 : w.cell? ⟨b, 1, none⟩ = some (.slice (some ⟨g, 0, none⟩) 0 0) := c1
  have mixed : Tryd.prog.follows Departure.mixedOrders = true := by kernel_rfl
  go_enter Tryd.func21, Tryd.ntmps21
  go_wp2
  go_region_o
  all_goals (go_wp2; go_ret; exact ⟨rfl, (Below.drew (Below.refl B w)).alloc hBw _, Lib.alloc_old w _ b hlt⟩)
theorem tString (B b : Nat) (l : List UInt8) (x y z : Value) (w : World) (h : IsTeller B b (Lib.byteCells l) x y z w) (hBw : B ≤ w.heap.size) :
    Calls Tryd.prog 21 #[.pointer (some ⟨b, 0, none⟩)] w fun e w' => e = .returned (.string ⟨l.toArray⟩) ∧ Below B w w' ∧ w'.heap[b]? = w.heap[b]? := by
  by_cases h0 : l = []
  · subst h0
    obtain ⟨p, hp, hB, v, hbk, hown, hne⟩ := h.at_
    rcases hown.2 with ⟨rfl, _⟩ | ⟨g, cap, cur, fz, rfl, hbg, hg, _, _, _, _, _⟩
    · exact tString_nil B b p x y z w hbk
    · by_cases hc0 : cap = 0
      · subst hc0
        exact tString_noroom B b p x y z w g cur fz hBw hg hbk
      · exact tString_room B b p x y z w g cap hc0 hbk
  · exact tString_some B b l x y z w h h0
end Go.Proofs.YtagdkbncfcdhdaaDoor.Ext
end
section
set_option linter.unusedVariables false
namespace Go.Proofs.YtagdkbncfcdhdaaDoor.Ext
section
open Go.RowKit Go.Proofs.YtagdkbncfcdhdaaDoor.T Go.Proofs.YtagdkbncfcdhdaaDoorW.PrintWords
/-- What a teller holds. -/
structure St where
  out : List UInt8
  args : List ByteArray
  status : Int
  taken : Int
/-- The block b is a teller of a call that began at W0: it holds s. -/
def Tl (W0 : World) (b : Nat) (s : St) (w : World) : Prop :=
  ∃ A c, s.args.length ≤ c ∧ Kd.C Kd.string W0 A s.args.length s.args ∧ IsTeller W0.heap.size b (Lib.byteCells s.out) (.slice A s.args.length c) (.int .i64 s.status) (.int .i64 s.taken) w ∧ Below W0.heap.size W0 w
theorem Tl.below {W0 : World} {b : Nat} {s : St} {w w' : World} (h : Tl W0 b s w) (hb : Below w.heap.size w w') : Tl W0 b s w' := by
  obtain ⟨A, c, h1, h2, h3, h4⟩ := h
  exact ⟨A, c, h1, h2, h3.below hb, h4.trans (hb.mono h4.size)⟩
def oneF (k : Nat) (x0 x1 x2 : Int) (s : St) : Option St :=
  if x0 = 37 then (if s.out.length + 1 ≤ 1000000000000 then some ⟨s.out ++ [37], s.args, s.status, s.taken⟩ else none) else
  (printf_spec_told.f k x0 x1 x2 (s.args.headD ⟨#[]⟩)).bind fun r =>
    if s.out.length + r.1.size ≤ 1000000000000 then some ⟨s.out ++ r.1.data.toList, s.args.tail, if r.2 = true then s.status else 1, wrap64 (s.taken + 1)⟩ else none
theorem cells_snoc (l : List UInt8) (c : UInt8) : Lib.byteCells l ++ [Value.int .u8 c.toNat] = Lib.byteCells (l ++ [c]) := by
  unfold Lib.byteCells
  rw [List.map_append]
  rfl
set_option maxHeartbeats 4000000 in
set_option maxRecDepth 100000 in
theorem one_pct (W0 : World) (b : Nat) (s : St) (x1 x2 : Int) (w : World) (h : Tl W0 b s w) (hlen : s.out.length + 1 ≤ 1000000000000) :
    Calls Tryd.prog 31 #[.pointer (some ⟨b, 0, none⟩), .agg #[.int .u8 37, .int .u8 x1, .int .i64 x2]] w fun e w' => e = .returned (.tuple #[]) ∧ Tl W0 b ⟨s.out ++ [37], s.args, s.status, s.taken⟩ w' := by
  obtain ⟨A, c, h1, h2, h3, h4⟩ := h
  have HC := Lib.hid (show s.args.length ≤ c ∧ Kd.C Kd.string W0 A s.args.length s.args from ⟨h1, h2⟩)
  have HT := Lib.hid h3
  have HB := Lib.hid h4
  have HL := Lib.hid hlen
  clear h1 h2 h3 h4 hlen
  go_enter Tryd.func31, Tryd.ntmps31
  go_wp2_with fail
  have hal := Lib.hid ((Below.refl w.heap.size w).alloc (Nat.le_refl _) (Obj.cells #[Value.int IntKind.u8 37, Value.int IntKind.u8 x1, Value.int IntKind.i64 x2] 59 (0, 0)))
  refine (tWriteByte W0.heap.size b _ _ _ _ 37 _ (HT.out.below hal.out) (by rw [Lib.byteCells_length]; have := HL.out; omega) (Nat.le_trans HB.out.size hal.out.size)).mono ?_
  rintro e w2 ⟨rfl, ht, hb2⟩
  have HT2 := Lib.hid ht
  have HB2 := Lib.hid hb2
  clear ht hb2
  go_wp2_with fail
  refine bodyPost_ret (results_none rfl _ _ _) rfl ?_
  exact ⟨rfl, A, c, HC.out.1, HC.out.2, by rw [← cells_snoc]; exact HT2.out, (HB.out.trans (hal.out.mono HB.out.size)).trans HB2.out⟩
set_option maxHeartbeats 4000000 in
set_option maxRecDepth 100000 in
theorem one_nil (W0 : World) (b k : Nat) (s : St) (x0 x1 x2 : Int) (r1 : ByteArray) (r2 : Bool) (w : World) (h : Tl W0 b s w) (ha : s.args = []) (hx : x0 ≠ 37) (ht : printf_spec_told.f k x0 x1 x2 ⟨#[]⟩ = some (r1, r2)) (hlen : s.out.length + r1.size ≤ 1000000000000) :
    Calls Tryd.prog 31 #[.pointer (some ⟨b, 0, none⟩), .agg #[.int .u8 x0, .int .u8 x1, .int .i64 x2]] w fun e w' => e = .returned (.tuple #[]) ∧ Tl W0 b ⟨s.out ++ r1.data.toList, [], if r2 = true then s.status else 1, wrap64 (s.taken + 1)⟩ w' := by
  obtain ⟨out, args, status, taken⟩ := s
  dsimp only at ha hlen ⊢
  subst ha
  obtain ⟨A, c, h1, h2, h3, h4⟩ := h
  dsimp only [List.length_nil] at h1 h2 h3
  have hxb : (x0 == 37) = false := beq_eq_false_iff_ne.2 hx
  have HC := Lib.hid (show 0 ≤ c ∧ Kd.C Kd.string W0 A 0 [] from ⟨h1, h2⟩)
  have HB := Lib.hid h4
  have HL := Lib.hid hlen
  have HTold := Lib.hid ht
  have HBOX := Lib.hid ((Below.refl w.heap.size w).alloc (Nat.le_refl _) (Obj.cells #[Value.int .u8 x0, Value.int .u8 x1, Value.int .i64 x2] 59 (0, 0)))
  have HT := Lib.hid (h3.below HBOX.out)
  obtain ⟨c2, c3, c4, cf⟩ := HT.out.cells
  have f2 := cf 2
  have f3 := cf 3
  have f4 := cf 4
  have HGE := Lib.hid (show W0.heap.size ≤ b from HT.out.elim (fun q => q.1) (fun q => q.1))
  clear h1 h2 h3 h4 hlen hx ht cf
  go_enter Tryd.func31, Tryd.ntmps31
  go_wp2_with fail
  have hs2 : (w.alloc (Obj.cells #[Value.int .u8 x0, Value.int .u8 x1, Value.int .i64 x2] 59 (0, 0))).heap.size ≤ ((w.alloc (Obj.cells #[Value.int .u8 x0, Value.int .u8 x1, Value.int .i64 x2] 59 (0, 0))).setCell ⟨b, 4, none⟩ (Value.int .i64 (wrap64 (taken + 1)))).heap.size := by simp [World.setCell]
  have HBs := Lib.hid (((HB.out.trans (HBOX.out.mono HB.out.size)).setCell (p := ⟨b, 4, none⟩) HGE.out (Value.int .i64 (wrap64 (taken + 1)))))
  have HTs := Lib.hid (HT.out.set4 (Value.int .i64 (wrap64 (taken + 1))))
  refine (printf_spec_told.calls k x0 x1 x2 ⟨#[]⟩ r1 r2 _ HTold.out).mono ?_
  rintro e w3 ⟨rfl, hb3⟩
  have HT3 := Lib.hid (HTs.out.below hb3)
  have HB3 := Lib.hid (HBs.out.trans (hb3.mono HBs.out.size))
  clear hb3 c2 c3 c4 f2 f3 f4
  obtain ⟨c2, c3, c4, cf⟩ := HT3.out.cells
  have f3 := cf 3
  clear cf c2 c4
  cases r2 with
  | true =>
    go_wp2_with fail
    refine (tWriteString W0.heap.size b _ _ _ _ r1 _ HT3.out (by rw [Lib.byteCells_length]; have := HL.out; omega) HB3.out.size).mono ?_
    rintro e w4 ⟨rfl, ht4, hb4⟩
    have HT4 := Lib.hid ht4
    have HB4 := Lib.hid (HB3.out.trans hb4)
    clear ht4 hb4
    go_wp2_with fail
    go_end0
    exact ⟨rfl, A, c, HC.out.1, HC.out.2, by dsimp only; rw [← cells_app]; exact HT4.out, HB4.out⟩
  | false =>
    go_wp2_with fail
    refine (tWriteString W0.heap.size b _ _ _ _ r1 _ (HT3.out.set3 (Value.int .i64 1)) (by rw [Lib.byteCells_length]; have := HL.out; omega) (HB3.out.setCell (p := ⟨b, 3, none⟩) HGE.out _).size).mono ?_
    rintro e w4 ⟨rfl, ht4, hb4⟩
    have HT4 := Lib.hid ht4
    have HB4 := Lib.hid ((HB3.out.setCell (p := ⟨b, 3, none⟩) HGE.out (Value.int .i64 1)).trans hb4)
    clear ht4 hb4
    go_wp2_with fail
    go_end0
    exact ⟨rfl, A, c, HC.out.1, HC.out.2, by dsimp only; rw [← cells_app]; exact HT4.out, HB4.out⟩
set_option maxHeartbeats 4000000 in
set_option maxRecDepth 100000 in
theorem one_cons (W0 : World) (b k : Nat) (s : St) (x0 x1 x2 : Int) (r1 : ByteArray) (r2 : Bool) (w : World) (h : Tl W0 b s w) (a : ByteArray) (rest : List ByteArray) (ha : s.args = a :: rest) (hx : x0 ≠ 37) (ht : printf_spec_told.f k x0 x1 x2 a = some (r1, r2)) (hlen : s.out.length + r1.size ≤ 1000000000000) :
    Calls Tryd.prog 31 #[.pointer (some ⟨b, 0, none⟩), .agg #[.int .u8 x0, .int .u8 x1, .int .i64 x2]] w fun e w' => e = .returned (.tuple #[]) ∧ Tl W0 b ⟨s.out ++ r1.data.toList, rest, if r2 = true then s.status else 1, wrap64 (s.taken + 1)⟩ w' := by
  obtain ⟨out, args, status, taken⟩ := s
  dsimp only at ha hlen ⊢
  subst ha
  obtain ⟨A, c, h1, h2, h3, h4⟩ := h
  dsimp only [List.length_cons] at h1 h2 h3
  have hxb : (x0 == 37) = false := beq_eq_false_iff_ne.2 hx
  have HC := Lib.hid (show rest.length + 1 ≤ c ∧ Kd.C Kd.string W0 A (rest.length + 1) (a :: rest) from ⟨h1, h2⟩)
  have HB := Lib.hid h4
  have HL := Lib.hid hlen
  have HTold := Lib.hid ht
  have HBOX := Lib.hid ((Below.refl w.heap.size w).alloc (Nat.le_refl _) (Obj.cells #[Value.int .u8 x0, Value.int .u8 x1, Value.int .i64 x2] 59 (0, 0)))
  have HT := Lib.hid (h3.below HBOX.out)
  have HNE := Lib.hid (show b ≠ w.heap.size from fun e => by have := h3.lt; omega)
  obtain ⟨c2, c3, c4, cf⟩ := HT.out.cells
  have f2 := cf 2
  have f3 := cf 3
  have f4 := cf 4
  have HGE := Lib.hid (show W0.heap.size ≤ b from HT.out.elim (fun q => q.1) (fun q => q.1))
  clear h1 h2 h3 h4 hlen hx ht cf
  obtain ⟨ad, rfl, hx0⟩ := Kd.at_string (Kd.C_below HC.out.2 (HB.out.trans (HBOX.out.mono HB.out.size))) 0 (by omega) (by omega)
  have hx1 : (w.alloc (Obj.cells #[Value.int .u8 x0, Value.int .u8 x1, Value.int .i64 x2] 59 (0, 0))).cell? ad = some (.string a) := by simpa [Addr.add, rdOf] using hx0
  have mixed : Tryd.prog.follows Departure.mixedOrders = true := by kernel_rfl
  have hlc : rest.length + 1 ≤ c := HC.out.1
  clear hx0
  go_enter Tryd.func31, Tryd.ntmps31
  go_wp2_with fail
  go_region_o
  have HT2 := Lib.hid ((HT.out.set2 (Value.slice (if c = 1 then some ad else some ⟨ad.block, ad.off + 1, none⟩) rest.length (c - 1))).below ((Below.refl _ _).drew))
  have HB2 := Lib.hid (((HB.out.trans (HBOX.out.mono HB.out.size)).setCell (p := ⟨b, 2, none⟩) HGE.out (Value.slice (if c = 1 then some ad else some ⟨ad.block, ad.off + 1, none⟩) rest.length (c - 1))).drew)
  have HX2 := Lib.hid (show (World.drew (World.setCell (w.alloc (Obj.cells #[Value.int .u8 x0, Value.int .u8 x1, Value.int .i64 x2] 59 (0, 0))) ⟨b, 2, none⟩ (Value.slice (if c = 1 then some ad else some ⟨ad.block, ad.off + 1, none⟩) rest.length (c - 1)))).heap[w.heap.size]? = some (Obj.cells #[Value.int .u8 x0, Value.int .u8 x1, Value.int .i64 x2] 59 (0, 0)) from
    (Below.heap_setCell _ ⟨b, 2, none⟩ _ w.heap.size (fun e => HNE.out e.symm)).trans (heap_alloc_new w _))
  generalize (World.drew (World.setCell (w.alloc (Obj.cells #[Value.int .u8 x0, Value.int .u8 x1, Value.int .i64 x2] 59 (0, 0))) ⟨b, 2, none⟩ (Value.slice (if c = 1 then some ad else some ⟨ad.block, ad.off + 1, none⟩) rest.length (c - 1)))) = W2 at HT2 HB2 HX2 ⊢
  have HC2 := Lib.hid (show rest.length ≤ c - 1 ∧ Kd.C Kd.string W0 (if c = 1 then some ad else some ⟨ad.block, ad.off + 1, none⟩) rest.length rest from ⟨by omega, by
    have := Kd.C_drop (m := 1) HC.out.2 (by simp) HC.out.1
    simpa [Addr.add, show Kd.string.sz = 1 from rfl] using this⟩)
  clear c2 c3 c4 f2 f3 f4 hx1
  obtain ⟨c2, c3, c4, cf⟩ := HT2.out.cells
  have f4 := cf 4
  clear cf c2 c3
  generalize (if c = 1 then some ad else some (⟨ad.block, ad.off + 1, none⟩ : Addr)) = A2 at HT2 HC2 ⊢
  have hq : (W2.setCell ⟨b, 4, none⟩ (Value.int .i64 (wrap64 (taken + 1)))).heap[w.heap.size]? = some (Obj.cells #[Value.int .u8 x0, Value.int .u8 x1, Value.int .i64 x2] 59 (0, 0)) :=
    (Below.heap_setCell _ ⟨b, 4, none⟩ _ w.heap.size (fun e => HNE.out e.symm)).trans HX2.out
  have q0 : (W2.setCell ⟨b, 4, none⟩ (Value.int .i64 (wrap64 (taken + 1)))).cell? ⟨w.heap.size, 0, none⟩ = some (Value.int .u8 x0) := by rw [Lib.cell_of_heap hq]; rfl
  have q1 : (W2.setCell ⟨b, 4, none⟩ (Value.int .i64 (wrap64 (taken + 1)))).cell? ⟨w.heap.size, 1, none⟩ = some (Value.int .u8 x1) := by rw [Lib.cell_of_heap hq]; rfl
  have q2 : (W2.setCell ⟨b, 4, none⟩ (Value.int .i64 (wrap64 (taken + 1)))).cell? ⟨w.heap.size, 2, none⟩ = some (Value.int .i64 x2) := by rw [Lib.cell_of_heap hq]; rfl
  clear hq
  go_wp2_with fail
  have HBs := Lib.hid (HB2.out.setCell (p := ⟨b, 4, none⟩) HGE.out (Value.int .i64 (wrap64 (taken + 1))))
  have HTs := Lib.hid (HT2.out.set4 (Value.int .i64 (wrap64 (taken + 1))))
  refine (printf_spec_told.calls k x0 x1 x2 a r1 r2 _ HTold.out).mono ?_
  rintro e w3 ⟨rfl, hb3⟩
  have HT3 := Lib.hid (HTs.out.below hb3)
  have HB3 := Lib.hid (HBs.out.trans (hb3.mono HBs.out.size))
  clear hb3 c4 f4
  obtain ⟨c2, c3, c4, cf⟩ := HT3.out.cells
  have f3 := cf 3
  clear cf c2 c4
  cases r2 with
  | true =>
    go_wp2_with fail
    refine (tWriteString W0.heap.size b _ _ _ _ r1 _ HT3.out (by rw [Lib.byteCells_length]; have := HL.out; omega) HB3.out.size).mono ?_
    rintro e w4 ⟨rfl, ht4, hb4⟩
    have HT4 := Lib.hid ht4
    have HB4 := Lib.hid (HB3.out.trans hb4)
    clear ht4 hb4
    go_wp2_with fail
    go_end0
    exact ⟨rfl, _, c - 1, HC2.out.1, HC2.out.2, by dsimp only; rw [← cells_app]; exact HT4.out, HB4.out⟩
  | false =>
    go_wp2_with fail
    refine (tWriteString W0.heap.size b _ _ _ _ r1 _ (HT3.out.set3 (Value.int .i64 1)) (by rw [Lib.byteCells_length]; have := HL.out; omega) (HB3.out.setCell (p := ⟨b, 3, none⟩) HGE.out _).size).mono ?_
    rintro e w4 ⟨rfl, ht4, hb4⟩
    have HT4 := Lib.hid ht4
    have HB4 := Lib.hid ((HB3.out.setCell (p := ⟨b, 3, none⟩) HGE.out (Value.int .i64 1)).trans hb4)
    clear ht4 hb4
    go_wp2_with fail
    go_end0
    exact ⟨rfl, _, c - 1, HC2.out.1, HC2.out.2, by dsimp only; rw [← cells_app]; exact HT4.out, HB4.out⟩
theorem one_calls (W0 : World) (b k : Nat) (s s' : St) (x0 x1 x2 : Int) (w : World) (h : Tl W0 b s w) (hf : oneF k x0 x1 x2 s = some s') :
    Calls Tryd.prog 31 #[.pointer (some ⟨b, 0, none⟩), .agg #[.int .u8 x0, .int .u8 x1, .int .i64 x2]] w fun e w' => e = .returned (.tuple #[]) ∧ Tl W0 b s' w' := by
  unfold oneF at hf
  by_cases hx : x0 = 37
  · rw [if_pos hx] at hf
    split at hf
    · next hl =>
      injection hf with hf
      subst hf hx
      exact one_pct W0 b s x1 x2 w h hl
    · cases hf
  · rw [if_neg hx] at hf
    obtain ⟨⟨r1, r2⟩, ht, hf⟩ := Option.bind_eq_some_iff.1 hf
    dsimp only at hf
    split at hf
    · next hl =>
      injection hf with hf
      subst hf
      cases ha : s.args with
      | nil =>
        rw [ha] at ht
        exact one_nil W0 b k s x0 x1 x2 r1 r2 w h ha hx ht hl
      | cons a rest =>
        rw [ha] at ht
        exact one_cons W0 b k s x0 x1 x2 r1 r2 w h a rest ha hx ht hl
    · cases hf
end
section
open Go.RowKit Go.Proofs.YtagdkbncfcdhdaaDoorW.PrintWords
theorem tl_str (W0 : World) (b : Nat) (s : St) (x : ByteArray) (w : World) (h : Tl W0 b s w) (hlen : s.out.length + x.size ≤ 1000000000000) :
    Calls Tryd.prog 24 #[.pointer (some ⟨b, 0, none⟩), .string x] w fun e w' => e = .returned (.tuple #[.int .i64 x.size, .nilIface]) ∧ Tl W0 b ⟨s.out ++ x.data.toList, s.args, s.status, s.taken⟩ w' := by
  obtain ⟨A, c, h1, h2, h3, h4⟩ := h
  refine (tWriteString W0.heap.size b _ _ _ _ x _ h3 (by rw [Lib.byteCells_length]; omega) h4.size).mono ?_
  rintro e w2 ⟨rfl, ht, hb2⟩
  exact ⟨rfl, A, c, h1, h2, by dsimp only; rw [← cells_app]; exact ht, h4.trans hb2⟩
theorem tl_byte (W0 : World) (b : Nat) (s : St) (c : UInt8) (w : World) (h : Tl W0 b s w) (hlen : s.out.length + 1 ≤ 1000000000000) :
    Calls Tryd.prog 29 #[.pointer (some ⟨b, 0, none⟩), .int .u8 c.toNat] w fun e w' => e = .returned .nilIface ∧ Tl W0 b ⟨s.out ++ [c], s.args, s.status, s.taken⟩ w' := by
  obtain ⟨A, c', h1, h2, h3, h4⟩ := h
  refine (tWriteByte W0.heap.size b _ _ _ _ c.toNat _ h3 (by rw [Lib.byteCells_length]; omega) h4.size).mono ?_
  rintro e w2 ⟨rfl, ht, hb2⟩
  exact ⟨rfl, A, c', h1, h2, by dsimp only; rw [← cells_snoc]; exact ht, h4.trans hb2⟩
theorem Tl.fault {W0 : World} {b : Nat} {s : St} {w : World} (h : Tl W0 b s w) : Tl W0 b ⟨s.out, s.args, 1, s.taken⟩ (w.setCell ⟨b, 3, none⟩ (.int .i64 1)) := by
  obtain ⟨A, c, h1, h2, h3, h4⟩ := h
  exact ⟨A, c, h1, h2, h3.set3 _, h4.setCell (p := ⟨b, 3, none⟩) (h3.elim (fun q => q.1) (fun q => q.1)) _⟩
theorem Tl.cell3 {W0 : World} {b : Nat} {s : St} {w : World} (h : Tl W0 b s w) : w.cell? ⟨b, 3, none⟩ = some (.int .i64 s.status) ∧ w.frozen? ⟨b, 3, none⟩ = false := by
  obtain ⟨A, c, h1, h2, h3, h4⟩ := h
  exact ⟨h3.cells.2.1, h3.cells.2.2.2 3⟩
/-- What a format does to a teller. -/
def onceF (kk : Nat) : Nat → ByteArray → St → Option (St × Bool)
  | 0, _, _ => none
  | n + 1, x, s => if x.size = 0 then some (s, true) else
    (Q.printf_escape.f 8 x).bind fun e =>
      if 0 < e.2 then (if e.2 ≤ x.size ∧ s.out.length + e.1.size ≤ 1000000000000 then onceF kk n (x.extract e.2.toNat x.size) ⟨s.out ++ e.1.data.toList, s.args, s.status, s.taken⟩ else none)
      else if (x.data.toList.headD 0) ≠ 37 then (if s.out.length + 1 ≤ 1000000000000 then onceF kk n (x.extract 1 x.size) ⟨s.out ++ [x.data.toList.headD 0], s.args, s.status, s.taken⟩ else none)
      else (Q.printf_conversion.f 20 (x.extract 1 x.size)).bind fun c =>
        if c.2.2.2.2 = true then (oneF kk c.1 c.2.1 c.2.2.1 s).bind fun s' => (if 0 ≤ c.2.2.2.1 ∧ 1 + c.2.2.2.1 ≤ x.size then onceF kk n (x.extract (1 + c.2.2.2.1).toNat x.size) s' else none)
        else some (⟨s.out, s.args, 1, s.taken⟩, false)
set_option maxHeartbeats 8000000 in
set_option maxRecDepth 100000 in
theorem once_calls (W0 : World) (b kk n : Nat) (a0 : ByteArray) (s R : St) (ok : Bool) (w : World) (h : Tl W0 b s w) (hf : onceF kk n a0 s = some (R, ok)) (hsz : a0.size ≤ 1000000000) :
    Calls Tryd.prog 20 #[.pointer (some ⟨b, 0, none⟩), .string a0] w fun e w' => e = .returned (.bool ok) ∧ Tl W0 b R w' := by
  have HT := Lib.hid h
  have HF := Lib.hid hf
  have HSZ := Lib.hid hsz
  clear h hf hsz
  go_enter Tryd.func20, Tryd.ntmps20
  go_wp2_with fail
  go_loopw [1] (fun i wr => ∃ (k : Nat) (x : ByteArray) (q : St), i = .string x ∧ onceF kk k x q = some (R, ok) ∧ x.size ≤ 1000000000 ∧ Tl W0 b q wr) (fun i _ => strLen i)
  case atStart => exact ⟨n, a0, s, rfl, HF.out, HSZ.out, HT.out⟩
  case round =>
    obtain ⟨k, x, q, rfl, hk, hxs, htl⟩ := hrel
    cases k with
    | zero => cases hk
    | succ k =>
    rw [onceF] at hk
    by_cases hx : x.size = 0
    · rw [if_pos hx] at hk
      injection hk with hk
      injection hk with hk1 hk2
      subst hk1 hk2
      have hx2 := size_nil hx
      have HTL := Lib.hid htl
      clear htl hxs hx
      go_wp2_with fail
      go_ret
      exact ⟨rfl, HTL.out⟩
    · rw [if_neg hx] at hk
      have hx2 := size_pos hx
      obtain ⟨⟨t, n⟩, he, hk⟩ := Option.bind_eq_some_iff.1 hk
      dsimp only at hk
      have HE := Lib.hid he
      have HTL := Lib.hid htl
      have HXS := Lib.hid hxs
      clear htl he hxs
      by_cases hn : 0 < n
      · rw [if_pos hn] at hk
        split at hk
        case isFalse => cases hk
        rename_i hrg
        obtain ⟨hn1, ho1⟩ := hrg
        have HK := Lib.hid hk
        have HO := Lib.hid ho1
        have HN := Lib.hid hn
        have HX := Lib.hid hx
        have hn0 : 0 ≤ n := by omega
        have hnb : decide (0 < n) = true := decide_eq_true hn
        clear ho1 hk hx
        go_wp2_with fail
        refine (Q.printf_escape.calls 8 x t n _ HE.out).mono ?_
        rintro e w' ⟨rfl, hb1⟩
        have HT2 := Lib.hid (HTL.out.below hb1)
        clear hb1
        go_wp2_with fail
        refine (tl_str W0 b q t _ HT2.out HO.out).mono ?_
        rintro e w2 ⟨rfl, ht3⟩
        have HT3 := Lib.hid ht3
        clear ht3
        go_wp2_with fail
        go_roundw
        case rel => exact ⟨k, _, _, rfl, HK.out, by rw [ByteArray.size_extract]; have := HXS.out; omega, HT3.out⟩
        case measure =>
          have h1 := HX.out
          have h2 := HN.out
          simp only [strLen, ByteArray.size_extract]
          omega
      · rw [if_neg hn] at hk
        have hnb : decide (0 < n) = false := decide_eq_false hn
        have hx1 : (1 : Int) ≤ x.size := by omega
        have hx0 : 0 < x.size := by omega
        have HN := Lib.hid hn
        have hc0 : x.data.toList.headD 0 = x[0] := by
          have h1 : x.data.toList[0]? = some x[0] := by
            rw [List.getElem?_eq_getElem (by simpa using hx0)]
            simp
            rfl
          rw [List.headD_eq_head?_getD, List.head?_eq_getElem?, h1]
          rfl
        rw [hc0] at hk
        by_cases hp : x[0] ≠ 37
        · rw [if_pos hp] at hk
          have hp1 : (((x[0].toNat : Nat) : Int) != 37) = true := by
            rw [bne_iff_ne]
            intro e
            exact hp (UInt8.toNat_inj.1 (by show _ = 37; omega))
          split at hk
          case isFalse => cases hk
          rename_i ho1
          have HK := Lib.hid hk
          have HO := Lib.hid ho1
          have HX := Lib.hid hx
          clear ho1 hk hx
          go_wp2_with fail
          refine (Q.printf_escape.calls 8 x t n _ HE.out).mono ?_
          rintro e w' ⟨rfl, hb1⟩
          have HT2 := Lib.hid (HTL.out.below hb1)
          clear hb1
          go_wp2_with fail
          go_region_with (go_at_call 29; refine (tl_byte W0 b q x[0] _ (HT2.out.below (by first | exact Below.refl _ _ | exact (Below.refl _ _).drew)) HO.out).mono ?_; rintro e w2 ⟨rfl, ht3⟩; have HT3 := Lib.hid ht3; clear ht3)
          go_wp2_with fail
          go_roundw
          case rel => exact ⟨k, _, _, rfl, HK.out, by rw [ByteArray.size_extract]; have := HXS.out; omega, HT3.out⟩
          case measure =>
            have h1 := HX.out
            simp only [strLen, ByteArray.size_extract]
            omega
        · rw [if_neg hp] at hk
          have hp0 : x[0] = 37 := Classical.not_not.1 hp
          have hp1 : (((x[0].toNat : Nat) : Int) != 37) = false := by rw [hp0]; rfl
          obtain ⟨⟨r1, r2, r3, r4, r5⟩, hcv, hk⟩ := Option.bind_eq_some_iff.1 hk
          dsimp only at hk
          have HCV := Lib.hid hcv
          have HX := Lib.hid hx
          have HK := Lib.hid hk
          clear hcv hk hx hp hp0
          go_wp2_with fail
          refine (Q.printf_escape.calls 8 x t n _ HE.out).mono ?_
          rintro e w' ⟨rfl, hb1⟩
          have HT2 := Lib.hid (HTL.out.below hb1)
          clear hb1
          go_wp2_with fail
          refine (Q.printf_conversion.calls 20 (x.extract 1 x.size) r1 r2 r3 r4 r5 _ HCV.out).mono ?_
          rintro e w2 ⟨rfl, hb2⟩
          have HT3 := Lib.hid ((HT2.out.below hb2).below ((Below.refl _ _).alloc (Nat.le_refl _) (Obj.cells #[Value.int .u8 r1, Value.int .u8 r2, Value.int .i64 r3] 59 (0, 0))))
          clear hb2
          cases r5 with
          | false =>
            have hk := HK.out
            rw [if_neg (by simp)] at hk
            injection hk with hk
            injection hk with hk1 hk2
            subst hk1 hk2
            obtain ⟨c3, f3⟩ := HT3.out.cell3
            go_wp2_with fail
            go_ret
            exact ⟨rfl, HT3.out.fault⟩
          | true =>
            have hk := HK.out
            rw [if_pos rfl] at hk
            obtain ⟨s2, h1, hk⟩ := Option.bind_eq_some_iff.1 hk
            split at hk
            case isFalse => cases hk
            rename_i hrg
            obtain ⟨hn0, hn1⟩ := hrg
            have HK2 := Lib.hid hk
            have H1 := Lib.hid h1
            have hw : wrap64 (1 + r4) = 1 + r4 := by
              have := HXS.out
              unfold wrap64
              omega
            have hw0 : 0 ≤ 1 + r4 := by omega
            have HN0 := Lib.hid hn0
            clear hk h1
            go_wp2_with fail
            refine (one_calls W0 b kk q s2 r1 r2 r3 _ HT3.out H1.out).mono ?_
            rintro e w3 ⟨rfl, ht4⟩
            have HT4 := Lib.hid ht4
            clear ht4
            go_wp2_with fail
            go_roundw
            case rel => exact ⟨k, _, _, rfl, HK2.out, by rw [ByteArray.size_extract]; have := HXS.out; omega, HT4.out⟩
            case measure =>
              have h1 := HX.out
              have h2 := HN0.out
              simp only [strLen, ByteArray.size_extract]
              omega
end
section
open Go.RowKit Go.Proofs.YtagdkbncfcdhdaaDoorW.PrintWords
/-- Again and again, while there are words left and it takes any. -/
def formatF (kk : Nat) (x : ByteArray) : Nat → St → Option St
  | 0, _ => none
  | n + 1, s => (onceF kk (x.size + 1) x s).bind fun r => if r.2 = true then (if r.1.args.length = 0 then some r.1 else (if 0 < r.1.taken then formatF kk x n r.1 else some r.1)) else some r.1
def printf_Format.f (a0 : ByteArray) (l1 : List ByteArray) : Option (ByteArray × Int) :=
  if a0.size ≤ 1000000000 then (formatF 200 a0 (l1.length + 2) ⟨[], l1, 0, 0⟩).map fun s => (⟨s.out.toArray⟩, s.status) else none
theorem Tl.cell24 {W0 : World} {b : Nat} {s : St} {w : World} (h : Tl W0 b s w) : (∃ A c, w.cell? ⟨b, 2, none⟩ = some (.slice A s.args.length c)) ∧ w.cell? ⟨b, 4, none⟩ = some (.int .i64 s.taken) := by
  obtain ⟨A, c, h1, h2, h3, h4⟩ := h
  exact ⟨⟨A, c, h3.cells.1⟩, h3.cells.2.2.1⟩
theorem Tl.fresh (A : Option Addr) (c : Nat) (l : List ByteArray) (w : World) (hr : Kd.C Kd.string w A l.length l) (hc : l.length ≤ c) :
    Tl w w.heap.size ⟨[], l, 0, 0⟩ (w.alloc (.cells #[.pointer none, .slice none 0 0, .slice A l.length c, .int .i64 0, .int .i64 0] 43 (0, 0))) := by
  refine ⟨A, c, hc, hr, .inl ⟨Nat.le_refl _, .slice none 0 0, heap_alloc_new w _, ⟨rfl, .inl ⟨rfl, rfl⟩⟩, by simp [Value.ownBlock]⟩, (Below.refl _ _).alloc (Nat.le_refl _) _⟩
set_option maxHeartbeats 4000000 in
set_option maxRecDepth 100000 in
theorem printf_Format.calls (a0 : ByteArray) (A1 : Option Addr) (c1 : Nat) (l1 : List ByteArray) (r1 : ByteArray) (r2 : Int) (w : World) (hr1 : Kd.C Kd.string w A1 l1.length l1) (hc1 : l1.length ≤ c1) (h : printf_Format.f a0 l1 = some (r1, r2)) :
    Calls Tryd.prog 9 #[.string a0, .slice A1 l1.length c1] w fun e w' => e = .returned (.tuple #[.string r1, .int .i64 r2]) ∧ Below w.heap.size w w' := by
  unfold printf_Format.f at h
  split at h
  case isFalse => cases h
  rename_i hsz
  obtain ⟨R, hR, hE⟩ := Option.map_eq_some_iff.1 h
  injection hE with hE1 hE2
  subst hE1 hE2
  clear h
  have HR := Lib.hid hR
  have HSZ := Lib.hid hsz
  have HT := Lib.hid (Tl.fresh A1 c1 l1 w hr1 hc1)
  clear hR hsz hr1 hc1
  go_enter Tryd.func9, Tryd.ntmps9
  go_wp2_with fail
  go_loopg [] (l1.length + 2) (fun kq w2 => ∃ q : St, formatF 200 a0 kq q = some R ∧ Tl w w.heap.size q w2)
  case atStart => exact ⟨_, HR.out, HT.out⟩
  case round =>
    obtain ⟨q, hk, htl⟩ := hrel
    cases gk with
    | zero => cases hk
    | succ k1 =>
    rw [formatF] at hk
    obtain ⟨⟨s2, ok⟩, h1, hk⟩ := Option.bind_eq_some_iff.1 hk
    dsimp only at hk
    have HTL := Lib.hid htl
    have H1 := Lib.hid h1
    have HSZ2 := Lib.hid HSZ.out
    clear htl h1
    cases ok with
    | false =>
      rw [if_neg (by simp)] at hk
      injection hk with hk
      subst hk
      go_wp2_with fail
      refine (once_calls w w.heap.size 200 (a0.size + 1) a0 q s2 false _ HTL.out H1.out HSZ2.out).mono ?_
      rintro e w2 ⟨rfl, ht2⟩
      have HT2 := Lib.hid ht2
      clear ht2
      obtain ⟨⟨A2, c2, e2⟩, e4⟩ := HT2.out.cell24
      obtain ⟨e3, f3⟩ := HT2.out.cell3
      go_wp2_with fail
      have mixed : Tryd.prog.follows Departure.mixedOrders = true := by kernel_rfl
      obtain ⟨A3, c3, g1, g2, g3, g4⟩ := HT2.out
      have G3 := Lib.hid g3
      have G4 := Lib.hid g4
      clear g1 g2 g3 g4
      go_region_with (go_at_call 21; refine (tString w.heap.size w.heap.size s2.out _ _ _ _ (G3.out.below (by first | exact Below.refl _ _ | exact (Below.refl _ _).drew)) (by first | exact G4.out.size | exact (G4.out.drew).size)).mono ?_; rintro e w3 ⟨rfl, hb3, hk3⟩; have HB3 := Lib.hid (show Below w.heap.size w w3 from by first | exact G4.out.trans hb3 | exact (G4.out.drew).trans hb3); have d3 : w3.cell? ⟨w.heap.size, 3, none⟩ = some (.int .i64 s2.status) := (by unfold World.cell? at e3 ⊢; rw [hk3]; exact e3); clear hb3 hk3)
      all_goals (go_wp2_with fail; go_ret2; exact ⟨rfl, HB3.out⟩)
    | true =>
      rw [if_pos rfl] at hk
      by_cases hz : s2.args.length = 0
      · rw [if_pos hz] at hk
        injection hk with hk
        subst hk
        go_wp2_with fail
        refine (once_calls w w.heap.size 200 (a0.size + 1) a0 q s2 true _ HTL.out H1.out HSZ2.out).mono ?_
        rintro e w2 ⟨rfl, ht2⟩
        have HT2 := Lib.hid ht2
        clear ht2
        obtain ⟨⟨A2, c2, e2⟩, e4⟩ := HT2.out.cell24
        rw [hz] at e2
        obtain ⟨e3, f3⟩ := HT2.out.cell3
        go_wp2_with fail
        have mixed : Tryd.prog.follows Departure.mixedOrders = true := by kernel_rfl
        obtain ⟨A3, c3, g1, g2, g3, g4⟩ := HT2.out
        have G3 := Lib.hid g3
        have G4 := Lib.hid g4
        clear g1 g2 g3 g4
        go_region_with (go_at_call 21; refine (tString w.heap.size w.heap.size s2.out _ _ _ _ (G3.out.below (by first | exact Below.refl _ _ | exact (Below.refl _ _).drew)) (by first | exact G4.out.size | exact (G4.out.drew).size)).mono ?_; rintro e w3 ⟨rfl, hb3, hk3⟩; have HB3 := Lib.hid (show Below w.heap.size w w3 from by first | exact G4.out.trans hb3 | exact (G4.out.drew).trans hb3); have d3 : w3.cell? ⟨w.heap.size, 3, none⟩ = some (.int .i64 s2.status) := (by unfold World.cell? at e3 ⊢; rw [hk3]; exact e3); clear hb3 hk3)
        all_goals (go_wp2_with fail; go_ret2; exact ⟨rfl, HB3.out⟩)
      · rw [if_neg hz] at hk
        have hz1 : decide (0 < (s2.args.length : Int)) = true := decide_eq_true (by omega)
        have hz2 : 0 < s2.args.length := by omega
        by_cases ht : 0 < s2.taken
        · rw [if_pos ht] at hk
          have ht1 : decide (0 < s2.taken) = true := decide_eq_true ht
          have HK := Lib.hid hk
          go_wp2_with fail
          refine (once_calls w w.heap.size 200 (a0.size + 1) a0 q s2 true _ HTL.out H1.out HSZ2.out).mono ?_
          rintro e w2 ⟨rfl, ht2⟩
          have HT2 := Lib.hid ht2
          clear ht2
          obtain ⟨⟨A2, c2, e2⟩, e4⟩ := HT2.out.cell24
          go_wp2_with fail
          go_roundg k1
          case measure => omega
          case rel => exact ⟨s2, HK.out, HT2.out⟩
        · rw [if_neg ht] at hk
          have ht1 : decide (0 < s2.taken) = false := decide_eq_false ht
          injection hk with hk
          subst hk
          go_wp2_with fail
          refine (once_calls w w.heap.size 200 (a0.size + 1) a0 q s2 true _ HTL.out H1.out HSZ2.out).mono ?_
          rintro e w2 ⟨rfl, ht2⟩
          have HT2 := Lib.hid ht2
          clear ht2
          obtain ⟨⟨A2, c2, e2⟩, e4⟩ := HT2.out.cell24
          obtain ⟨e3, f3⟩ := HT2.out.cell3
          go_wp2_with fail
          have mixed : Tryd.prog.follows Departure.mixedOrders = true := by kernel_rfl
          obtain ⟨A3, c3, g1, g2, g3, g4⟩ := HT2.out
          have G3 := Lib.hid g3
          have G4 := Lib.hid g4
          clear g1 g2 g3 g4
          go_region_with (go_at_call 21; refine (tString w.heap.size w.heap.size s2.out _ _ _ _ (G3.out.below (by first | exact Below.refl _ _ | exact (Below.refl _ _).drew)) (by first | exact G4.out.size | exact (G4.out.drew).size)).mono ?_; rintro e w3 ⟨rfl, hb3, hk3⟩; have HB3 := Lib.hid (show Below w.heap.size w w3 from by first | exact G4.out.trans hb3 | exact (G4.out.drew).trans hb3); have d3 : w3.cell? ⟨w.heap.size, 3, none⟩ = some (.int .i64 s2.status) := (by unfold World.cell? at e3 ⊢; rw [hk3]; exact e3); clear hb3 hk3)
          all_goals (go_wp2_with fail; go_ret2; exact ⟨rfl, HB3.out⟩)
end
end Go.Proofs.YtagdkbncfcdhdaaDoor.Ext
end

/- printf's teller: a block of five cells (a strings.Builder's two, the words that are left, the status, how many were taken): what the Builder's methods do there. Conditions: fewer than 2 to the 47 octets. -/
import Derived.Test.YtagdkbncfcdhdaaDoorShelf
import Derived.Test.YtagdkbncfcdhdaaDoorWWords
import Derived.Shelf.Strings.Builder1
import Derived.Shelf.Strings.BuilderK
import Derived.Shelf.Strings.MapGrows
import Derived.Lib.UnsafeStr
import Derived.Lib.Hide
set_option linter.unusedVariables false
namespace Go.Proofs.YtagdkbncfcdhdaaDoor.Ext
open Go.RowKit Go.Proofs.YtagdkbncfcdhdaaDoorW.PrintWords

/-- The block b is a teller; p is what the Builder knows of its place; it holds the octets bs; x, y, z are the other three cells. -/
def TellerAt (B b : Nat) (p : Value) (bs : List Value) (x y z : Value) (w : World) : Prop :=
  B ≤ b ∧ ∃ v, w.heap[b]? = some (.cells #[p, v, x, y, z] 43 (0, 0)) ∧ w.ownsRowF B 5 1 v bs.length bs ∧ v.ownBlock ≠ some b
def IsTeller (B b : Nat) (bs : List Value) (x y z : Value) (w : World) : Prop :=
  TellerAt B b (.pointer none) bs x y z w ∨ TellerAt B b (.pointer (some ⟨b, 0, none⟩)) bs x y z w
theorem TellerAt.is {B b : Nat} {bs : List Value} {x y z : Value} {w : World} (h : TellerAt B b (.pointer (some ⟨b, 0, none⟩)) bs x y z w) : IsTeller B b bs x y z w := .inr h
theorem IsTeller.at_ {B b : Nat} {bs : List Value} {x y z : Value} {w : World} (h : IsTeller B b bs x y z w) : ∃ p, (p = .pointer none ∨ p = .pointer (some ⟨b, 0, none⟩)) ∧ TellerAt B b p bs x y z w := by
  rcases h with h | h
  · exact ⟨_, .inl rfl, h⟩
  · exact ⟨_, .inr rfl, h⟩
theorem TellerAt.to {B b : Nat} {p : Value} {bs : List Value} {x y z : Value} {w : World} (hp : p = .pointer none ∨ p = .pointer (some ⟨b, 0, none⟩)) (h : TellerAt B b p bs x y z w) : IsTeller B b bs x y z w := by
  rcases hp with rfl | rfl
  · exact .inl h
  · exact .inr h
theorem TellerAt.lt {B b : Nat} {p : Value} {bs : List Value} {x y z : Value} {w : World} (h : TellerAt B b p bs x y z w) : b < w.heap.size := by
  obtain ⟨_, v, hb, _⟩ := h
  exact (Array.getElem?_eq_some_iff.1 hb).1
theorem IsTeller.lt {B b : Nat} {bs : List Value} {x y z : Value} {w : World} (h : IsTeller B b bs x y z w) : b < w.heap.size := h.elim TellerAt.lt TellerAt.lt
theorem TellerAt.below {B b : Nat} {p : Value} {bs : List Value} {x y z : Value} {W W' : World} (h : TellerAt B b p bs x y z W) (hb : Below W.heap.size W W') : TellerAt B b p bs x y z W' := by
  have hlt := h.lt
  obtain ⟨hB, v, hv, hown, hne⟩ := h
  exact ⟨hB, v, (hb.block b hlt).trans hv, hown.kept (row := none) ⟨hb.os, hb.tape, hb.output, hb.size, fun k hk _ => hb.block k hk⟩ (Classical.em _), hne⟩
theorem IsTeller.below {B b : Nat} {bs : List Value} {x y z : Value} {W W' : World} (h : IsTeller B b bs x y z W) (hb : Below W.heap.size W W') : IsTeller B b bs x y z W' :=
  h.elim (fun q => .inl (q.below hb)) (fun q => .inr (q.below hb))
theorem TellerAt.alloc {B b : Nat} {p : Value} {bs : List Value} {x y z : Value} {w : World} (h : TellerAt B b p bs x y z w) (o : Obj) : TellerAt B b p bs x y z (w.alloc o) :=
  h.below ((Below.refl _ _).alloc (Nat.le_refl _) o)
/-- What its cells are. -/
theorem IsTeller.cells {B b : Nat} {bs : List Value} {x y z : Value} {w : World} (h : IsTeller B b bs x y z w) : w.cell? ⟨b, 2, none⟩ = some x ∧ w.cell? ⟨b, 3, none⟩ = some y ∧ w.cell? ⟨b, 4, none⟩ = some z ∧ ∀ j, w.frozen? ⟨b, j, none⟩ = false := by
  rcases h with ⟨_, v, hb, _⟩ | ⟨_, v, hb, _⟩ <;> exact ⟨by rw [Lib.cell_of_heap hb]; rfl, by rw [Lib.cell_of_heap hb]; rfl, by rw [Lib.cell_of_heap hb]; rfl, fun j => Lib.frozen_of_heap hb j⟩
theorem TellerAt.setc {B b : Nat} {p : Value} {bs : List Value} {x y z : Value} {w : World} (h : TellerAt B b p bs x y z w) (q : Value) :
    TellerAt B b p bs q y z (w.setCell ⟨b, 2, none⟩ q) ∧ TellerAt B b p bs x q z (w.setCell ⟨b, 3, none⟩ q) ∧ TellerAt B b p bs x y q (w.setCell ⟨b, 4, none⟩ q) := by
  obtain ⟨hB, v, hb, hown, hne⟩ := h
  have hk : ∀ j, (w.setCell ⟨b, j, none⟩ q).ownsRowF B 5 1 v bs.length bs := fun j =>
    hown.kept (row := some b) ⟨rfl, rfl, rfl, by simp [World.setCell], fun k _ hk => Below.heap_setCell _ _ _ _ (fun e => hk (by simp [e]))⟩ (Or.inr hne)
  refine ⟨⟨hB, v, ?_, hk 2, hne⟩, ⟨hB, v, ?_, hk 3, hne⟩, ⟨hB, v, ?_, hk 4, hne⟩⟩ <;> simp [World.setCell, Array.getElem?_modify, hb]
theorem IsTeller.set2 {B b : Nat} {bs : List Value} {x y z : Value} {w : World} (h : IsTeller B b bs x y z w) (q : Value) : IsTeller B b bs q y z (w.setCell ⟨b, 2, none⟩ q) := h.elim (fun k => .inl (k.setc q).1) (fun k => .inr (k.setc q).1)
theorem IsTeller.set3 {B b : Nat} {bs : List Value} {x y z : Value} {w : World} (h : IsTeller B b bs x y z w) (q : Value) : IsTeller B b bs x q z (w.setCell ⟨b, 3, none⟩ q) := h.elim (fun k => .inl (k.setc q).2.1) (fun k => .inr (k.setc q).2.1)
theorem IsTeller.set4 {B b : Nat} {bs : List Value} {x y z : Value} {w : World} (h : IsTeller B b bs x y z w) (q : Value) : IsTeller B b bs x y q (w.setCell ⟨b, 4, none⟩ q) := h.elim (fun k => .inl (k.setc q).2.2) (fun k => .inr (k.setc q).2.2)
theorem TellerAt.used {B b : Nat} {p : Value} {bs : List Value} {x y z : Value} {w : World} (h : TellerAt B b p bs x y z w) (q : Value) : TellerAt B b q bs x y z (w.setCell ⟨b, 0, none⟩ q) := by
  obtain ⟨hB, v, hb, hown, hne⟩ := h
  refine ⟨hB, v, by simp [World.setCell, Array.getElem?_modify, hb], ?_, hne⟩
  exact hown.kept (row := some b) ⟨rfl, rfl, rfl, by simp [World.setCell], fun k _ hk => Below.heap_setCell _ _ _ _ (fun e => hk (by simp [e]))⟩ (Or.inr hne)
theorem TellerAt.put {B b : Nat} {p v v' : Value} {bs' : List Value} {x y z : Value} {w : World} (hB : B ≤ b) (hb : w.heap[b]? = some (.cells #[p, v, x, y, z] 43 (0, 0))) (hown : w.ownsRowF B 5 1 v' bs'.length bs') :
    TellerAt B b p bs' x y z (w.setCell ⟨b, 1, none⟩ v') := by
  have hne := Lib.ownBlock_neF hown hb (by decide)
  refine ⟨hB, v', by simp [World.setCell, Array.getElem?_modify, hb], ?_, hne⟩
  exact hown.kept (row := some b) ⟨rfl, rfl, rfl, by simp [World.setCell], fun k _ hk => Below.heap_setCell _ _ _ _ (fun e => hk (by simp [e]))⟩ (Or.inr hne)

set_option maxHeartbeats 2000000 in
set_option maxRecDepth 100000 in
theorem tcopy_used (b : Nat) (w : World) (h0 : w.cell? ⟨b, 0, none⟩ = some (.pointer (some ⟨b, 0, none⟩))) :
    Calls Tryd.prog 34 #[.pointer (some ⟨b, 0, none⟩)] w fun e w' => e = .returned (.tuple #[]) ∧ w' = w := by
  obtain ⟨j, hj, _⟩ := Option.map_eq_some_iff.1 (show (Tryd.prog.info? 41).map (·.size) = some 2 by kernel_rfl)
  go_enter Tryd.func34, Tryd.ntmps34
  go_wp2
  rw [Lib.run_neq_ptr_same w _ Tryd.underlying39 hj]
  go_wp2
  go_end0
  exact ⟨rfl, rfl⟩

set_option maxHeartbeats 2000000 in
set_option maxRecDepth 100000 in
theorem tcopy_fresh (b : Nat) (w : World) (h0 : w.cell? ⟨b, 0, none⟩ = some (.pointer none)) (hsh : w.shape? b = some (43, 5)) (hfz : w.frozen? ⟨b, 0, none⟩ = false) :
    Calls Tryd.prog 34 #[.pointer (some ⟨b, 0, none⟩)] w fun e w' => e = .returned (.tuple #[]) ∧ w' = w.setCell ⟨b, 0, none⟩ (.pointer (some ⟨b, 0, none⟩)) := by
  obtain ⟨j, hj, hjs⟩ := Option.map_eq_some_iff.1 (show (Tryd.prog.info? 41).map (·.size) = some 2 by kernel_rfl)
  have hlies : liesAt Tryd.prog Tryd.prog.depth 43 (5 / Tryd.prog.cellsOf 43) 0 41 1 = true := by kernel_rfl
  go_enter Tryd.func34, Tryd.ntmps34
  go_wp2
  rw [Lib.run_to_unsafe w ⟨b, 0, none⟩ Tryd.underlying39 Tryd.underlying71 hj (by rw [hjs]; decide) hsh (Nat.zero_lt_succ 4)]
  simp only [Result.andThen]
  rw [Oper.upon_value]
  go_wp2
  rw [run_callFunc_extern Tryd.func40 (by kernel_rfl) (by kernel_rfl) (by kernel_rfl) (e := Extern.AbiNoEscape.same) (by kernel_rfl)]
  rw [Lib.run_noEscape]
  simp only [Result.andThen]
  rw [Oper.upon_value]
  go_wp2
  rw [Lib.run_from_unsafe w ⟨b, 0, none⟩ Tryd.underlying71 Tryd.underlying39 hj hsh hlies]
  simp only [Result.andThen]
  rw [Oper.upon_value]
  go_wp2
  go_end0
  exact ⟨rfl, rfl⟩

theorem tcopy (B b : Nat) (bs : List Value) (x y z : Value) (w : World) (h : IsTeller B b bs x y z w) :
    Calls Tryd.prog 34 #[.pointer (some ⟨b, 0, none⟩)] w fun e w' => e = .returned (.tuple #[]) ∧ TellerAt B b (.pointer (some ⟨b, 0, none⟩)) bs x y z w' ∧ Below B w w' := by
  rcases h with h | h
  · have hh := h
    obtain ⟨hB, v, hb, hown, hne⟩ := hh
    refine (tcopy_fresh b w (by rw [Lib.cell_of_heap hb]; rfl) (by simp [World.shape?, hb]) (Lib.frozen_of_heap hb 0)).mono ?_
    rintro e w' ⟨rfl, rfl⟩
    exact ⟨rfl, h.used _, (Below.refl B w).setCell (p := ⟨b, 0, none⟩) h.1 _⟩
  · have hh := h
    obtain ⟨hB, v, hb, hown, hne⟩ := hh
    refine (tcopy_used b w (by rw [Lib.cell_of_heap hb]; rfl)).mono ?_
    rintro e w' ⟨rfl, rfl⟩
    exact ⟨rfl, h, Below.refl B _⟩

set_option maxHeartbeats 4000000 in
set_option maxRecDepth 100000 in
theorem tWriteByte (B b : Nat) (bs : List Value) (x y z : Value) (c : Int) (w : World) (h : IsTeller B b bs x y z w) (hlen : bs.length + 1 ≤ 140737488355328) (hBw : B ≤ w.heap.size) :
    Calls Tryd.prog 29 #[.pointer (some ⟨b, 0, none⟩), .int .u8 c] w fun e w' => e = .returned .nilIface ∧ IsTeller B b (bs ++ [.int .u8 c]) x y z w' ∧ Below B w w' := by
  obtain ⟨i0, hi, hz0, hz1, hz2⟩ := info_parts (show (Tryd.prog.info? 5).map (fun i => (i.zero, i.size, i.bytes)) = some (some (.int .u8 0), 1, 1) by kernel_rfl)
  go_enter Tryd.func29, Tryd.ntmps29
  go_wp2_with fail
  refine (tcopy B b bs x y z _ h).mono ?_
  rintro e w1 ⟨rfl, h1, hb1⟩
  obtain ⟨hB, v, hbk, hown, hne⟩ := h1
  have c0 : w1.cell? ⟨b, 0, none⟩ = some (.pointer (some ⟨b, 0, none⟩)) := by rw [Lib.cell_of_heap hbk]; rfl
  have c1 : w1.cell? ⟨b, 1, none⟩ = some v := by rw [Lib.cell_of_heap hbk]; rfl
  go_wp2_with (at_builtin; refine wpList_append_ownF _ rfl _ _ 27 rfl B 5 i0 (.int .u8 0) 1 1 Tryd.underlying27 hi hz0 hz1 hz2 rfl (by decide) _ _ _ rfl (hown.alloc _) ⟨w1.heap.size, 0, none⟩ 1 1 [.int .u8 c] rfl rfl ?c1 ?c2 ?c3 ?c4 ?c5 ?_)
  case c1 =>
    intro j u hj
    match j, hj with
    | 0, hj => simp at hj; subst hj; simp [Addr.add]
  case c2 => intro u hu; simp at hu; subst hu; rfl
  case c3 => unfold maxLen; omega
  case c4 => omega
  case c5 => have := hb1.size; simp; omega
  intro v' w2 hown' hgrow _
  have hlt : b < w1.heap.size := (Array.getElem?_eq_some_iff.1 hbk).1
  have hb2 : w2.heap[b]? = some (.cells #[.pointer (some ⟨b, 0, none⟩), v, x, y, z] 43 (0, 0)) := by
    rw [hgrow.block b (by simp; omega) (fun e => hne e.symm), Lib.alloc_old w1 _ b hlt]
    exact hbk
  have d0 : w2.cell? ⟨b, 0, none⟩ = some (.pointer (some ⟨b, 0, none⟩)) := by rw [Lib.cell_of_heap hb2]; rfl
  have d1 : w2.cell? ⟨b, 1, none⟩ = some v := by rw [Lib.cell_of_heap hb2]; rfl
  have f1 : w2.frozen? ⟨b, 1, none⟩ = false := Lib.frozen_of_heap hb2 1
  obtain ⟨g, cap, rfl⟩ : ∃ g cap, v' = .slice (some ⟨g, 0, none⟩) (bs.length + 1) cap := by
    rcases hown'.2 with ⟨_, h0⟩ | ⟨g, cap, cur, fz, hv, _⟩
    · omega
    · exact ⟨g, cap, hv⟩
  go_wp2
  go_ret
  refine ⟨rfl, .inr ?_, ?_⟩
  · exact TellerAt.put hB hb2 (bs' := bs ++ [.int .u8 c]) (by simpa using hown')
  · exact ((hb1.alloc (by have := hb1.size; omega) _).grown hgrow (by have := hb1.size; simp; omega) (fun k hk => (hown.lt k hk).1)).setCell (p := ⟨b, 1, none⟩) hB _

set_option maxHeartbeats 4000000 in
set_option maxRecDepth 100000 in
theorem tWriteString (B b : Nat) (bs : List Value) (x y z : Value) (s : ByteArray) (w : World) (h : IsTeller B b bs x y z w) (hlen : bs.length + s.size ≤ 140737488355328) (hBw : B ≤ w.heap.size) :
    Calls Tryd.prog 24 #[.pointer (some ⟨b, 0, none⟩), .string s] w fun e w' => e = .returned (.tuple #[.int .i64 s.size, .nilIface]) ∧ IsTeller B b (bs ++ Lib.strCells s) x y z w' ∧ Below B w w' := by
  obtain ⟨i0, hi, hz0, hz1, hz2⟩ := info_parts (show (Tryd.prog.info? 5).map (fun i => (i.zero, i.size, i.bytes)) = some (some (.int .u8 0), 1, 1) by kernel_rfl)
  go_enter Tryd.func24, Tryd.ntmps24
  go_wp2_with fail
  refine (tcopy B b bs x y z _ h).mono ?_
  rintro e w1 ⟨rfl, h1, hb1⟩
  obtain ⟨hB, v, hbk, hown, hne⟩ := h1
  have c0 : w1.cell? ⟨b, 0, none⟩ = some (.pointer (some ⟨b, 0, none⟩)) := by rw [Lib.cell_of_heap hbk]; rfl
  have c1 : w1.cell? ⟨b, 1, none⟩ = some v := by rw [Lib.cell_of_heap hbk]; rfl
  go_wp2_with (at_builtin; refine Lib.wpList_append_own_stringF _ rfl _ _ 27 9 rfl B 5 i0 Tryd.underlying27 Tryd.underlying9 hi hz0 hz1 hz2 _ _ _ rfl hown s rfl ?c3 ?c4 ?c5 ?_)
  case c3 => unfold maxLen; omega
  case c4 => omega
  case c5 => have := hb1.size; omega
  intro v' w2 hown' hgrow _
  have hlt : b < w1.heap.size := (Array.getElem?_eq_some_iff.1 hbk).1
  have hb2 : w2.heap[b]? = some (.cells #[.pointer (some ⟨b, 0, none⟩), v, x, y, z] 43 (0, 0)) := by
    rw [hgrow.block b hlt (fun e => hne e.symm)]
    exact hbk
  have d0 : w2.cell? ⟨b, 0, none⟩ = some (.pointer (some ⟨b, 0, none⟩)) := by rw [Lib.cell_of_heap hb2]; rfl
  have d1 : w2.cell? ⟨b, 1, none⟩ = some v := by rw [Lib.cell_of_heap hb2]; rfl
  have f1 : w2.frozen? ⟨b, 1, none⟩ = false := Lib.frozen_of_heap hb2 1
  obtain ⟨ao, n', cap, rfl⟩ : ∃ ao n' cap, v' = .slice ao n' cap := by
    rcases hown'.2 with ⟨hv, _⟩ | ⟨g, cap, cur, fz, hv, _⟩
    · exact ⟨_, _, _, hv⟩
    · exact ⟨_, _, _, hv⟩
  go_wp2
  go_ret2
  refine ⟨rfl, .inr ?_, ?_⟩
  · exact TellerAt.put hB hb2 (bs' := bs ++ Lib.strCells s) (by simpa [Lib.strCells_length] using hown')
  · exact (hb1.grown hgrow (by have := hb1.size; omega) (fun k hk => (hown.lt k hk).1)).setCell (p := ⟨b, 1, none⟩) hB _



set_option maxHeartbeats 2000000 in
set_option maxRecDepth 100000 in
theorem tString_some (B b : Nat) (l : List UInt8) (x y z : Value) (w : World) (h : IsTeller B b (Lib.byteCells l) x y z w) (h0 : l ≠ []) :
    Calls Tryd.prog 21 #[.pointer (some ⟨b, 0, none⟩)] w fun e w' => e = .returned (.string ⟨l.toArray⟩) ∧ Below B w w' ∧ w'.heap[b]? = w.heap[b]? := by
  obtain ⟨p, hp, hB, v, hbk, hown, hne⟩ := h.at_
  have hl0 : l.length ≠ 0 := by simpa using h0
  rw [Lib.byteCells_length] at hown
  obtain ⟨g, cap, cur, fz, rfl, hbg, hg, hfz, hnc, hcm, hcs, htake⟩ : ∃ g cap cur fz, v = .slice (some ⟨g, 0, none⟩) l.length cap ∧ B ≤ g ∧ w.heap[g]? = some (.cells cur 5 fz) ∧ fz.2 ≤ l.length * 1 ∧ l.length ≤ cap ∧ cap ≤ maxLen ∧ cur.size = cap * 1 ∧ cur.toList.take (l.length * 1) = Lib.byteCells l := by
    rcases hown.2 with ⟨_, hz⟩ | ⟨g, cap, cur, fz, hv, r⟩
    · exact absurd hz hl0
    · exact ⟨g, cap, cur, fz, hv, r⟩
  have hgb : g ≠ b := fun e => hne (by simp [Value.ownBlock, e])
  have c1 : w.drew.cell? ⟨b, 1, none⟩ = some (.slice (some ⟨g, 0, none⟩) l.length cap) := by
    have : w.drew.heap[b]? = some (.cells #[p, .slice (some ⟨g, 0, none⟩) l.length cap, x, y, z] 43 (0, 0)) := hbk
    rw [Lib.cell_of_heap this]; rfl
  have hSD : (Builtin.unsafeSliceData_ #[27] 63 #[.slice (some ⟨g, 0, none⟩) l.length cap]).run Tryd.prog w.drew = .ok (.pointer (some ⟨g, 0, none⟩)) w.drew :=
    Lib.run_unsafeSliceData_row _ _ _ _ _ _ (by omega)
  have hUS : (Builtin.unsafeString_ #[63, 3] 9 #[.pointer (some ⟨g, 0, none⟩), .int .i64 l.length]).run Tryd.prog w.drew = .ok (.string ⟨l.toArray⟩) (w.drew.freeze ⟨g, 0, none⟩ l.length) := by
    refine Lib.run_unsafeString_row w.drew 63 3 9 5 Tryd.underlying63 (by kernel_rfl) g cur.size (by have hg' : w.drew.heap[g]? = some (.cells cur 5 fz) := hg; simp [World.shape?, hg']) l h0 (by omega) (by unfold maxLen at hcm; omega) ?_
    intro j u hx
    have := hown.cells (g := g) rfl j (.int .u8 u.toNat) (by simp [Lib.byteCells, hx])
    exact this
  have hkeep : (w.drew.freeze ⟨g, 0, none⟩ l.length).heap[b]? = w.heap[b]? := by
    unfold World.freeze
    split
    · rfl
    · simp only [Array.getElem?_modify]
      rw [if_neg hgb]
      rfl
  have mixed : Tryd.prog.follows Departure.mixedOrders = true := by kernel_rfl
  have HK := Lib.hid hkeep
  have HG := Lib.hid hbg
  clear hkeep hbg hown hg htake hbk h
  go_enter Tryd.func21, Tryd.ntmps21
  go_wp2
  go_region_o
  all_goals (go_wp2; go_ret; exact ⟨rfl, Lib.below_freeze (Below.drew (Below.refl B w)) (p := ⟨g, 0, none⟩) HG.out _, HK.out⟩)

set_option maxHeartbeats 2000000 in
set_option maxRecDepth 100000 in
theorem tString_nil (B b : Nat) (p x y z : Value) (w : World) (hbk : w.heap[b]? = some (.cells #[p, .slice none 0 0, x, y, z] 43 (0, 0))) :
    Calls Tryd.prog 21 #[.pointer (some ⟨b, 0, none⟩)] w fun e w' => e = .returned (.string ⟨#[]⟩) ∧ Below B w w' ∧ w'.heap[b]? = w.heap[b]? := by
  have hUS : ∀ (W : World) (q : Option Addr), (Builtin.unsafeString_ #[63, 3] 9 #[.pointer q, .int .i64 0]).run Tryd.prog W = .ok (.string .empty) W := fun W q => Lib.run_unsafeString_none W _ _ _ q
  have hlt : b < w.heap.size := (Array.getElem?_eq_some_iff.1 hbk).1
  have c1 : w.drew.cell? ⟨b, 1, none⟩ = some (.slice none 0 0) := by
    have : w.drew.heap[b]? = some (.cells #[p, .slice none 0 0, x, y, z] 43 (0, 0)) := hbk
    rw [Lib.cell_of_heap this]; rfl
  have hSD : (Builtin.unsafeSliceData_ #[27] 63 #[.slice none 0 0]).run Tryd.prog w.drew = .ok (.pointer none) w.drew := rfl
  have mixed : Tryd.prog.follows Departure.mixedOrders = true := by kernel_rfl
  go_enter Tryd.func21, Tryd.ntmps21
  go_wp2
  go_region_o
  all_goals (go_wp2; go_ret; exact ⟨rfl, Below.drew (Below.refl B w), rfl⟩)

set_option maxHeartbeats 2000000 in
set_option maxRecDepth 100000 in
theorem tString_room (B b : Nat) (p x y z : Value) (w : World) (g cap : Nat) (hc0 : cap ≠ 0) (hbk : w.heap[b]? = some (.cells #[p, .slice (some ⟨g, 0, none⟩) 0 cap, x, y, z] 43 (0, 0))) :
    Calls Tryd.prog 21 #[.pointer (some ⟨b, 0, none⟩)] w fun e w' => e = .returned (.string ⟨#[]⟩) ∧ Below B w w' ∧ w'.heap[b]? = w.heap[b]? := by
  have hUS : ∀ (W : World) (q : Option Addr), (Builtin.unsafeString_ #[63, 3] 9 #[.pointer q, .int .i64 0]).run Tryd.prog W = .ok (.string .empty) W := fun W q => Lib.run_unsafeString_none W _ _ _ q
  have hlt : b < w.heap.size := (Array.getElem?_eq_some_iff.1 hbk).1
  have c1 : w.drew.cell? ⟨b, 1, none⟩ = some (.slice (some ⟨g, 0, none⟩) 0 cap) := by
    have : w.drew.heap[b]? = some (.cells #[p, .slice (some ⟨g, 0, none⟩) 0 cap, x, y, z] 43 (0, 0)) := hbk
    rw [Lib.cell_of_heap this]; rfl
  have hSD : (Builtin.unsafeSliceData_ #[27] 63 #[.slice (some ⟨g, 0, none⟩) 0 cap]).run Tryd.prog w.drew = .ok (.pointer (some ⟨g, 0, none⟩)) w.drew :=
    Lib.run_unsafeSliceData_row _ _ _ _ _ _ hc0
  clear hc0
  have mixed : Tryd.prog.follows Departure.mixedOrders = true := by kernel_rfl
  go_enter Tryd.func21, Tryd.ntmps21
  go_wp2
  go_region_o
  all_goals (go_wp2; go_ret; exact ⟨rfl, Below.drew (Below.refl B w), rfl⟩)

set_option maxHeartbeats 2000000 in
set_option maxRecDepth 100000 in
theorem tString_noroom (B b : Nat) (p x y z : Value) (w : World) (g : Nat) (cur : Array Value) (fz : Nat × Nat) (hBw : B ≤ w.heap.size) (hg : w.heap[g]? = some (.cells cur 5 fz)) (hbk : w.heap[b]? = some (.cells #[p, .slice (some ⟨g, 0, none⟩) 0 0, x, y, z] 43 (0, 0))) :
    Calls Tryd.prog 21 #[.pointer (some ⟨b, 0, none⟩)] w fun e w' => e = .returned (.string ⟨#[]⟩) ∧ Below B w w' ∧ w'.heap[b]? = w.heap[b]? := by
  have hUS : ∀ (W : World) (q : Option Addr), (Builtin.unsafeString_ #[63, 3] 9 #[.pointer q, .int .i64 0]).run Tryd.prog W = .ok (.string .empty) W := fun W q => Lib.run_unsafeString_none W _ _ _ q
  have hlt : b < w.heap.size := (Array.getElem?_eq_some_iff.1 hbk).1
  have c1 : w.drew.cell? ⟨b, 1, none⟩ = some (.slice (some ⟨g, 0, none⟩) 0 0) := by
    have : w.drew.heap[b]? = some (.cells #[p, .slice (some ⟨g, 0, none⟩) 0 0, x, y, z] 43 (0, 0)) := hbk
    rw [Lib.cell_of_heap this]; rfl
  have hSD : (Builtin.unsafeSliceData_ #[27] 63 #[.slice (some ⟨g, 0, none⟩) 0 0]).run Tryd.prog w.drew = .ok (.pointer (some ⟨w.drew.heap.size, 0, none⟩)) (w.drew.alloc (.view ⟨g, 0, none⟩ 5)) :=
    Lib.run_unsafeSliceData_zero w.drew _ _ 5 Tryd.underlying63 ⟨g, 0, none⟩ 0 (5, cur.size) (by have hg' : w.drew.heap[g]? = some (.cells cur 5 fz) := hg; simp [World.shape?, hg'])
  have c2 : (w.drew.alloc (.view ⟨g, 0, none⟩ 5)).cell? ⟨b, 1, none⟩ = some (.slice (some ⟨g, 0, none⟩) 0 0) := by
    have : (w.drew.alloc (.view ⟨g, 0, none⟩ 5)).heap[b]? = _ := (Lib.alloc_old w.drew _ b hlt).trans hbk
    rw [Lib.cell_of_heap this]; rfl
  have c3 : (w.alloc (.view ⟨g, 0, none⟩ 5)).drew.cell? ⟨b, 1, none⟩ = some (.slice (some ⟨g, 0, none⟩) 0 0) := c2
  have c0 : w.cell? ⟨b, 1, none⟩ = some (.slice (some ⟨g, 0, none⟩) 0 0) := c1
  have mixed : Tryd.prog.follows Departure.mixedOrders = true := by kernel_rfl
  go_enter Tryd.func21, Tryd.ntmps21
  go_wp2
  go_region_o
  all_goals (go_wp2; go_ret; exact ⟨rfl, (Below.drew (Below.refl B w)).alloc hBw _, Lib.alloc_old w _ b hlt⟩)

theorem tString (B b : Nat) (l : List UInt8) (x y z : Value) (w : World) (h : IsTeller B b (Lib.byteCells l) x y z w) (hBw : B ≤ w.heap.size) :
    Calls Tryd.prog 21 #[.pointer (some ⟨b, 0, none⟩)] w fun e w' => e = .returned (.string ⟨l.toArray⟩) ∧ Below B w w' ∧ w'.heap[b]? = w.heap[b]? := by
  by_cases h0 : l = []
  · subst h0
    obtain ⟨p, hp, hB, v, hbk, hown, hne⟩ := h.at_
    rcases hown.2 with ⟨rfl, _⟩ | ⟨g, cap, cur, fz, rfl, hbg, hg, _, _, _, _, _⟩
    · exact tString_nil B b p x y z w hbk
    · by_cases hc0 : cap = 0
      · subst hc0
        exact tString_noroom B b p x y z w g cur fz hBw hg hbk
      · exact tString_room B b p x y z w g cap hc0 hbk
  · exact tString_some B b l x y z w h h0

end Go.Proofs.YtagdkbncfcdhdaaDoor.Ext

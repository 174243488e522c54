/- Proved: arith.of's call; the parser as it stands in memory, and that it stays. -/
import Derived.Test.YtlbgnpllbogkeaaDoorProg
import Derived.Test.YtlbgnpllbogkeaaDoorVkArSum
import Derived.Lib.Hide
import Derived.Lib.LaidTab
import Derived.Lib.Space
import Derived.WalkSmall
import Derived.Lib.Fields
set_option linter.unusedVariables false
set_option linter.unusedSimpArgs false
namespace Go.Proofs.YtlbgnpllbogkeaaDoor.Ext
open Go.RowKit Go.Proofs.YtlbgnpllbogkeaaDoorW.PrintWords
/-- The table of blanks holds what its initialiser lays. -/
def Tab (w : World) : Prop := Lib.TabIs Tryd.prog w "strings.asciiSpace" .u8 Lib.asciiSpaceTab
theorem Tab.below {w w' : World} (h : Tab w) (hb : Below w.heap.size w w') : Tab w' := by
  unfold Tab Lib.TabIs World.var? at h ⊢
  obtain ⟨g, hg, h⟩ := Option.bind_eq_some_iff.1 h
  rw [hg, Option.bind_some]
  have hlt : g < w.heap.size := by
    rcases Nat.lt_or_ge g w.heap.size with hl | hl
    · exact hl
    · rw [Array.getElem?_eq_none hl] at h
      cases h
  rw [hb.block g hlt]
  exact h
abbrev parserCells (s : ByteArray) (bash : Bool) (t : Tok) (d : Nat) : Array Value := #[.string s, .bool bash, .int .i64 t.kind, .string t.text, .int .i64 t.pos, .int .i64 t.to_, .int .i64 d]
/-- The parser's block. -/
structure PB (w : World) (pb : Nat) (s : ByteArray) (bash : Bool) (t : Tok) (d : Nat) : Prop where
  blk : w.heap[pb]? = some (.cells (parserCells s bash t d) 46 (0, 0))
  tab : Tab w
  d60 : d ≤ 60
  sz : s.size ≤ 16384
  tle : t.to_ ≤ s.size
  txt : t.text.size ≤ 16384
section
variable {w w' : World} {pb : Nat} {s : ByteArray} {bash : Bool} {t t' : Tok} {d d' : Nat}
theorem PB.lt (h : PB w pb s bash t d) : pb < w.heap.size := blk_lt h.blk
theorem PB.bel (h : PB w pb s bash t d) (hb : Below w.heap.size w w') : PB w' pb s bash t d := ⟨(hb.block _ h.lt).trans h.blk, h.tab.below hb, h.d60, h.sz, h.tle, h.txt⟩
theorem Tab.grown (h : PB w pb s bash t d) (hg : w.grownBy w' (some pb)) : Tab w' := by
  have hT := h.tab
  unfold Tab Lib.TabIs World.var? at hT ⊢
  obtain ⟨g, hgn, hT⟩ := Option.bind_eq_some_iff.1 hT
  rw [hgn, Option.bind_some]
  have hlt : g < w.heap.size := by
    rcases Nat.lt_or_ge g w.heap.size with hl | hl
    · exact hl
    · rw [Array.getElem?_eq_none hl] at hT
      cases hT
  have hne : g ≠ pb := by
    intro e
    rw [e, h.blk] at hT
    have h1 := congrArg (fun o : Option (Array Value) => o.bind (fun a => a[0]?)) hT
    have h2 : some (Value.string s) = ((Lib.asciiSpaceTab.map fun z => Value.int .u8 z).toArray)[0]? := h1
    rw [List.getElem?_toArray, List.getElem?_map] at h2
    cases h3 : Lib.asciiSpaceTab[0]? with
    | none => rw [h3] at h2; cases h2
    | some z => rw [h3] at h2; cases h2
  rw [hg.block g hlt (fun e => hne (Option.some.inj e))]
  exact hT
theorem PB.put (h : PB w pb s bash t d) (hg : w.grownBy w' (some pb)) (hd : d' ≤ 60) (ht : t'.to_ ≤ s.size) (htx : t'.text.size ≤ 16384) (hb : w'.heap[pb]? = some (.cells (parserCells s bash t' d') 46 (0, 0))) : PB w' pb s bash t' d' := ⟨hb, Tab.grown h hg, hd, h.sz, ht, htx⟩
theorem PB.c0 (h : PB w pb s bash t d) : w.cell? ⟨pb, 0, none⟩ = some (.string s) := blk_cell h.blk 0
theorem PB.c1 (h : PB w pb s bash t d) : w.cell? ⟨pb, 1, none⟩ = some (.bool bash) := blk_cell h.blk 1
theorem PB.c2 (h : PB w pb s bash t d) : w.cell? ⟨pb, 2, none⟩ = some (.int .i64 t.kind) := blk_cell h.blk 2
theorem PB.c3 (h : PB w pb s bash t d) : w.cell? ⟨pb, 3, none⟩ = some (.string t.text) := blk_cell h.blk 3
theorem PB.c4 (h : PB w pb s bash t d) : w.cell? ⟨pb, 4, none⟩ = some (.int .i64 t.pos) := blk_cell h.blk 4
theorem PB.c5 (h : PB w pb s bash t d) : w.cell? ⟨pb, 5, none⟩ = some (.int .i64 t.to_) := blk_cell h.blk 5
theorem PB.c6 (h : PB w pb s bash t d) : w.cell? ⟨pb, 6, none⟩ = some (.int .i64 d) := blk_cell h.blk 6
theorem PB.fr (h : PB w pb s bash t d) (i : Nat) : w.frozen? ⟨pb, i, none⟩ = false := blk_frozen h.blk i
end
theorem grown_refl (w : World) (row : Option Nat) : w.grownBy w row := ⟨rfl, rfl, rfl, Nat.le_refl _, fun _ _ _ => rfl⟩
theorem grown_of_below {w w' : World} (h : Below w.heap.size w w') (row : Option Nat) : w.grownBy w' row := ⟨h.os, h.tape, h.output, h.size, fun k hk _ => h.block k hk⟩
theorem grown_trans {a b c : World} {row : Option Nat} (h : a.grownBy b row) (k : b.grownBy c row) : a.grownBy c row :=
  ⟨k.os.trans h.os, k.tape.trans h.tape, k.output.trans h.output, Nat.le_trans h.size k.size, fun i hi hr => (k.block i (Nat.lt_of_lt_of_le hi h.size) hr).trans (h.block i hi hr)⟩
theorem grown_set {w : World} {pb : Nat} (i : Nat) (u : Value) : w.grownBy (w.setCell ⟨pb, i, none⟩ u) (some pb) :=
  ⟨rfl, rfl, rfl, by simp [World.setCell], fun k hk hr => Below.heap_setCell w ⟨pb, i, none⟩ u k (fun e => hr (congrArg some e))⟩
set_option maxHeartbeats 1000000 in
/-- of: an expression of kids that lie in a block. -/
theorem of_calls (op : ByteArray) (A : Option Addr) (n c : Nat) (w : World) :
    Calls Tryd.prog 53 #[.string op, .slice A n c] w fun e w' => e = .returned (.agg #[.string op, .string em, .int .i64 0, .slice A n c]) ∧ Below w.heap.size w w' := by
  go_enter Tryd.func53, Tryd.ntmps53
  go_wp2
  refine bodyPost_ret (results_cell_row rfl _ _ w.heap.size 25 #[.string op, .string em, .int .i64 0, .slice A n c] (0, 0) _ rfl (heap_alloc_new w _) Tryd.underlying25 rfl (by kernel_rfl)) rfl ?_
  exact ⟨rfl, (Below.refl _ _).alloc (Nat.le_refl _) _⟩
abbrev parserV (pb : Nat) : Value := .pointer (some ⟨pb, 0, none⟩)
abbrev faultV (a e : Nat) : Value := .iface 40 (.agg #[.int .i64 a, .int .i64 e])
set_option maxHeartbeats 1000000 in
theorem fail_calls {pb : Nat} {s : ByteArray} {bash : Bool} {t : Tok} {d : Nat} (c : Nat) (w : World) (h : PB w pb s bash t d) :
    Calls Tryd.prog 21 #[parserV pb, .int .i64 c] w fun e w' => e = .panicked [{ v := faultV t.pos c, recovered := false }] ∧ Below w.heap.size w w' := by
  have h4 := h.c4
  have hf := h.fr 4
  go_enter Tryd.func21, Tryd.ntmps21
  go_wp2
  exact ⟨rfl, rfl, Below.refl _ _⟩
/-- What next is to tell. -/
def NextC (nx : Nat → Tok) (pb : Nat) (s : ByteArray) (bash : Bool) : Prop := ∀ (t : Tok) (d i : Nat) (w : World), PB w pb s bash t d → i ≤ s.size →
  Calls Tryd.prog 31 #[parserV pb, .int .i64 i] w fun e w' => e = .returned (.agg #[.int .i64 (nx i).kind, .string (nx i).text, .int .i64 (nx i).pos, .int .i64 (nx i).to_]) ∧ Below w.heap.size w w'
/-- A text of words. -/
def SetOf (set : ByteArray) (l : List ByteArray) : Prop := set.size ≤ 200 ∧ l.length ≤ 100 ∧ (∀ b ∈ l, ¬ b.size = 0) ∧ (set.data.toList.all (fun c => decide (c.toNat < 128))) = true ∧ ((Lib.fields set.data.toList).map fun z => (⟨z.toArray⟩ : ByteArray)) = l
/-- What in is to tell. -/
def InC : Prop := ∀ (set : ByteArray) (l : List ByteArray) (b : ByteArray) (w : World), SetOf set l → Tab w →
  Calls Tryd.prog 26 #[.string set, .string b] w fun e w' => e = .returned (.bool (inL l b)) ∧ Below w.heap.size w w'
theorem PB.set4 {w : World} {pb : Nat} {s : ByteArray} {bash : Bool} {t t' : Tok} {d : Nat} (h : PB w pb s bash t d) (ht : t'.to_ ≤ s.size) (htx : t'.text.size ≤ 16384) :
    PB ((((w.setCell ⟨pb, 2, none⟩ (.int .i64 t'.kind)).setCell ⟨pb, 3, none⟩ (.string t'.text)).setCell ⟨pb, 4, none⟩ (.int .i64 t'.pos)).setCell ⟨pb, 5, none⟩ (.int .i64 t'.to_)) pb s bash t' d := by
  refine h.put (grown_trans (grown_trans (grown_trans (grown_set 2 _) (grown_set 3 _)) (grown_set 4 _)) (grown_set 5 _)) h.d60 ht htx ?_
  exact heap_setCell_same _ _ 5 _ _ _ (heap_setCell_same _ _ 4 _ _ _ (heap_setCell_same _ _ 3 _ _ _ (heap_setCell_same _ _ 2 _ _ _ h.blk)))
theorem grown_set4 {w : World} {pb : Nat} (a b c d : Value) : w.grownBy ((((w.setCell ⟨pb, 2, none⟩ a).setCell ⟨pb, 3, none⟩ b).setCell ⟨pb, 4, none⟩ c).setCell ⟨pb, 5, none⟩ d) (some pb) :=
  grown_trans (grown_trans (grown_trans (grown_set 2 _) (grown_set 3 _)) (grown_set 4 _)) (grown_set 5 _)
section
variable {nx : Nat → Tok} {pb : Nat} {s : ByteArray} {bash : Bool} {t : Tok} {d : Nat}
set_option maxHeartbeats 1000000 in
theorem goOn_calls (hx : Nx nx s.size) (hn : NextC nx pb s bash) (w : World) (h : PB w pb s bash t d) :
    Calls Tryd.prog 19 #[parserV pb] w fun e w' => e = .returned (.tuple #[]) ∧ w.grownBy w' (some pb) ∧ PB w' pb s bash (nx t.to_) d := by
  have h5 := h.c5
  have HN := Lib.hid (hn t d t.to_ w h h.tle)
  have HLE := Lib.hid (hx.le h.tle)
  have HTX := Lib.hid (hx.txt _ h.tle)
  have HP := Lib.hid h
  clear h hn
  go_enter Tryd.func19, Tryd.ntmps19
  go_wp2_with fail
  refine HN.out.mono ?_
  rintro e w1 ⟨rfl, hb⟩
  have hp1 := HP.out.bel hb
  have x2 := hp1.c2
  have x3 := hp1.c3
  have x4 := hp1.c4
  have x5 := hp1.c5
  have f2 := hp1.fr 2
  have f3 := hp1.fr 3
  have f4 := hp1.fr 4
  have f5 := hp1.fr 5
  have HB := Lib.hid hb
  have HP1 := Lib.hid hp1
  clear hb hp1
  go_wp2_with fail
  refine bodyPost_end (results_none rfl _ _ _) rfl ?_
  exact ⟨rfl, grown_trans (grown_of_below HB.out _) (grown_set4 _ _ _ _), HP1.out.set4 HLE.out HTX.out⟩
/-- What took tells. -/
def TookSay (nx : Nat → Tok) (pb : Nat) (s : ByteArray) (bash : Bool) (d : Nat) (t : Tok) (w : World) (r : Option (ByteArray × Tok)) (e : Ending) (w' : World) : Prop := match r with
  | none => e = .returned (.tuple #[.string em, .bool false]) ∧ w.grownBy w' (some pb) ∧ PB w' pb s bash t d
  | some (op, t1) => e = .returned (.tuple #[.string op, .bool true]) ∧ w.grownBy w' (some pb) ∧ PB w' pb s bash t1 d
set_option maxHeartbeats 1000000 in
theorem took_calls (hx : Nx nx s.size) (hn : NextC nx pb s bash) (hi : InC) (set : ByteArray) (l : List ByteArray) (hs : SetOf set l) (w : World) (h : PB w pb s bash t d) :
    Calls Tryd.prog 52 #[parserV pb, .string set] w fun e w' => TookSay nx pb s bash d t w (tookF nx l t) e w' := by
  have h2 := h.c2
  have h3 := h.c3
  have HI := Lib.hid (fun W hT => hi set l t.text W hs hT)
  have HP := Lib.hid h
  have HN := Lib.hid hn
  have HX := Lib.hid hx
  clear h hn hi hs hx
  unfold tookF
  by_cases hk : t.kind = 3
  · have hkb : ((t.kind : Int) != 3) = false := by rw [hk]; rfl
    have HK := Lib.hid hk
    clear hk
    cases hin : inL l t.text with
    | false =>
      rw [hin] at HI
      rw [if_neg (fun h => by cases h.2)]
      go_enter Tryd.func52, Tryd.ntmps52
      go_wp2_with fail
      refine (HI.out w HP.out.tab).mono ?_
      rintro e w1 ⟨rfl, hb⟩
      have hp1 := HP.out.bel hb
      have HB := Lib.hid hb
      have HP1 := Lib.hid hp1
      clear hb hp1
      go_wp2_with fail
      go_ret2
      exact ⟨rfl, grown_of_below HB.out _, HP1.out⟩
    | true =>
      rw [hin] at HI
      rw [if_pos ⟨HK.out, rfl⟩]
      go_enter Tryd.func52, Tryd.ntmps52
      go_wp2_with fail
      refine (HI.out w HP.out.tab).mono ?_
      rintro e w1 ⟨rfl, hb⟩
      have hp1 := HP.out.bel hb
      have x3 := hp1.c3
      have HB := Lib.hid hb
      have HP1 := Lib.hid hp1
      clear hb hp1
      have HG := Lib.hid (goOn_calls HX.out HN.out w1 HP1.out)
      go_wp2_with fail
      refine HG.out.mono ?_
      rintro e w2 ⟨rfl, hg2, hp2⟩
      have HG2 := Lib.hid hg2
      have HP2 := Lib.hid hp2
      clear hg2 hp2
      go_wp2_with fail
      go_ret2
      exact ⟨rfl, grown_trans (grown_of_below HB.out _) HG2.out, HP2.out⟩
  · have hkb : ((t.kind : Int) != 3) = true := bne_iff_ne.2 (fun h => hk (by omega))
    rw [if_neg (fun h => hk h.1)]
    clear hk
    go_enter Tryd.func52, Tryd.ntmps52
    go_wp2_with fail
    go_ret2
    exact ⟨rfl, grown_refl _ _, HP.out⟩
end
end Go.Proofs.YtlbgnpllbogkeaaDoor.Ext

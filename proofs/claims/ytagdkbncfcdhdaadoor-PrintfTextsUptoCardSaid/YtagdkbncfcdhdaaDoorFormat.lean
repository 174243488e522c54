/- What the calls of (*printf.teller).one and once, and of printf.Format do. -/
import Derived.Test.YtagdkbncfcdhdaaDoorTeller
import Derived.Test.YtagdkbncfcdhdaaDoorEsc
import Derived.Test.YtagdkbncfcdhdaaDoorT49
import Derived.Test.YtagdkbncfcdhdaaDoorQ7
import Derived.Deep.RegionWith
set_option linter.unusedVariables false
namespace Go.Proofs.YtagdkbncfcdhdaaDoor.Ext

section
open Go.RowKit Go.Proofs.YtagdkbncfcdhdaaDoor.T Go.Proofs.YtagdkbncfcdhdaaDoorW.PrintWords

/-- What a teller holds. -/
structure St where
  out : List UInt8
  args : List ByteArray
  status : Int
  taken : Int
/-- The block b is a teller of a call that began at W0: it holds s. -/
def Tl (W0 : World) (b : Nat) (s : St) (w : World) : Prop :=
  ∃ A c, s.args.length ≤ c ∧ Kd.C Kd.string W0 A s.args.length s.args ∧ IsTeller W0.heap.size b (Lib.byteCells s.out) (.slice A s.args.length c) (.int .i64 s.status) (.int .i64 s.taken) w ∧ Below W0.heap.size W0 w
theorem Tl.below {W0 : World} {b : Nat} {s : St} {w w' : World} (h : Tl W0 b s w) (hb : Below w.heap.size w w') : Tl W0 b s w' := by
  obtain ⟨A, c, h1, h2, h3, h4⟩ := h
  exact ⟨A, c, h1, h2, h3.below hb, h4.trans (hb.mono h4.size)⟩

def oneF (k : Nat) (x0 x1 x2 : Int) (s : St) : Option St :=
  if x0 = 37 then (if s.out.length + 1 ≤ 1000000000000 then some ⟨s.out ++ [37], s.args, s.status, s.taken⟩ else none) else
  (printf_spec_told.f k x0 x1 x2 (s.args.headD ⟨#[]⟩)).bind fun r =>
    if s.out.length + r.1.size ≤ 1000000000000 then some ⟨s.out ++ r.1.data.toList, s.args.tail, if r.2 = true then s.status else 1, wrap64 (s.taken + 1)⟩ else none

theorem cells_snoc (l : List UInt8) (c : UInt8) : Lib.byteCells l ++ [Value.int .u8 c.toNat] = Lib.byteCells (l ++ [c]) := by
  unfold Lib.byteCells
  rw [List.map_append]
  rfl

set_option maxHeartbeats 4000000 in
set_option maxRecDepth 100000 in
theorem one_pct (W0 : World) (b : Nat) (s : St) (x1 x2 : Int) (w : World) (h : Tl W0 b s w) (hlen : s.out.length + 1 ≤ 1000000000000) :
    Calls Tryd.prog 31 #[.pointer (some ⟨b, 0, none⟩), .agg #[.int .u8 37, .int .u8 x1, .int .i64 x2]] w fun e w' => e = .returned (.tuple #[]) ∧ Tl W0 b ⟨s.out ++ [37], s.args, s.status, s.taken⟩ w' := by
  obtain ⟨A, c, h1, h2, h3, h4⟩ := h
  have HC := Lib.hid (show s.args.length ≤ c ∧ Kd.C Kd.string W0 A s.args.length s.args from ⟨h1, h2⟩)
  have HT := Lib.hid h3
  have HB := Lib.hid h4
  have HL := Lib.hid hlen
  clear h1 h2 h3 h4 hlen
  go_enter Tryd.func31, Tryd.ntmps31
  go_wp2_with fail
  have hal := Lib.hid ((Below.refl w.heap.size w).alloc (Nat.le_refl _) (Obj.cells #[Value.int IntKind.u8 37, Value.int IntKind.u8 x1, Value.int IntKind.i64 x2] 59 (0, 0)))
  refine (tWriteByte W0.heap.size b _ _ _ _ 37 _ (HT.out.below hal.out) (by rw [Lib.byteCells_length]; have := HL.out; omega) (Nat.le_trans HB.out.size hal.out.size)).mono ?_
  rintro e w2 ⟨rfl, ht, hb2⟩
  have HT2 := Lib.hid ht
  have HB2 := Lib.hid hb2
  clear ht hb2
  go_wp2_with fail
  refine bodyPost_ret (results_none rfl _ _ _) rfl ?_
  exact ⟨rfl, A, c, HC.out.1, HC.out.2, by rw [← cells_snoc]; exact HT2.out, (HB.out.trans (hal.out.mono HB.out.size)).trans HB2.out⟩

set_option maxHeartbeats 4000000 in
set_option maxRecDepth 100000 in
theorem one_nil (W0 : World) (b k : Nat) (s : St) (x0 x1 x2 : Int) (r1 : ByteArray) (r2 : Bool) (w : World) (h : Tl W0 b s w) (ha : s.args = []) (hx : x0 ≠ 37) (ht : printf_spec_told.f k x0 x1 x2 ⟨#[]⟩ = some (r1, r2)) (hlen : s.out.length + r1.size ≤ 1000000000000) :
    Calls Tryd.prog 31 #[.pointer (some ⟨b, 0, none⟩), .agg #[.int .u8 x0, .int .u8 x1, .int .i64 x2]] w fun e w' => e = .returned (.tuple #[]) ∧ Tl W0 b ⟨s.out ++ r1.data.toList, [], if r2 = true then s.status else 1, wrap64 (s.taken + 1)⟩ w' := by
  obtain ⟨out, args, status, taken⟩ := s
  dsimp only at ha hlen ⊢
  subst ha
  obtain ⟨A, c, h1, h2, h3, h4⟩ := h
  dsimp only [List.length_nil] at h1 h2 h3
  have hxb : (x0 == 37) = false := beq_eq_false_iff_ne.2 hx
  have HC := Lib.hid (show 0 ≤ c ∧ Kd.C Kd.string W0 A 0 [] from ⟨h1, h2⟩)
  have HB := Lib.hid h4
  have HL := Lib.hid hlen
  have HTold := Lib.hid ht
  have HBOX := Lib.hid ((Below.refl w.heap.size w).alloc (Nat.le_refl _) (Obj.cells #[Value.int .u8 x0, Value.int .u8 x1, Value.int .i64 x2] 59 (0, 0)))
  have HT := Lib.hid (h3.below HBOX.out)
  obtain ⟨c2, c3, c4, cf⟩ := HT.out.cells
  have f2 := cf 2
  have f3 := cf 3
  have f4 := cf 4
  have HGE := Lib.hid (show W0.heap.size ≤ b from HT.out.elim (fun q => q.1) (fun q => q.1))
  clear h1 h2 h3 h4 hlen hx ht cf
  go_enter Tryd.func31, Tryd.ntmps31
  go_wp2_with fail
  have hs2 : (w.alloc (Obj.cells #[Value.int .u8 x0, Value.int .u8 x1, Value.int .i64 x2] 59 (0, 0))).heap.size ≤ ((w.alloc (Obj.cells #[Value.int .u8 x0, Value.int .u8 x1, Value.int .i64 x2] 59 (0, 0))).setCell ⟨b, 4, none⟩ (Value.int .i64 (wrap64 (taken + 1)))).heap.size := by simp [World.setCell]
  have HBs := Lib.hid (((HB.out.trans (HBOX.out.mono HB.out.size)).setCell (p := ⟨b, 4, none⟩) HGE.out (Value.int .i64 (wrap64 (taken + 1)))))
  have HTs := Lib.hid (HT.out.set4 (Value.int .i64 (wrap64 (taken + 1))))
  refine (printf_spec_told.calls k x0 x1 x2 ⟨#[]⟩ r1 r2 _ HTold.out).mono ?_
  rintro e w3 ⟨rfl, hb3⟩
  have HT3 := Lib.hid (HTs.out.below hb3)
  have HB3 := Lib.hid (HBs.out.trans (hb3.mono HBs.out.size))
  clear hb3 c2 c3 c4 f2 f3 f4
  obtain ⟨c2, c3, c4, cf⟩ := HT3.out.cells
  have f3 := cf 3
  clear cf c2 c4
  cases r2 with
  | true =>
    go_wp2_with fail
    refine (tWriteString W0.heap.size b _ _ _ _ r1 _ HT3.out (by rw [Lib.byteCells_length]; have := HL.out; omega) HB3.out.size).mono ?_
    rintro e w4 ⟨rfl, ht4, hb4⟩
    have HT4 := Lib.hid ht4
    have HB4 := Lib.hid (HB3.out.trans hb4)
    clear ht4 hb4
    go_wp2_with fail
    go_end0
    exact ⟨rfl, A, c, HC.out.1, HC.out.2, by dsimp only; rw [← cells_app]; exact HT4.out, HB4.out⟩
  | false =>
    go_wp2_with fail
    refine (tWriteString W0.heap.size b _ _ _ _ r1 _ (HT3.out.set3 (Value.int .i64 1)) (by rw [Lib.byteCells_length]; have := HL.out; omega) (HB3.out.setCell (p := ⟨b, 3, none⟩) HGE.out _).size).mono ?_
    rintro e w4 ⟨rfl, ht4, hb4⟩
    have HT4 := Lib.hid ht4
    have HB4 := Lib.hid ((HB3.out.setCell (p := ⟨b, 3, none⟩) HGE.out (Value.int .i64 1)).trans hb4)
    clear ht4 hb4
    go_wp2_with fail
    go_end0
    exact ⟨rfl, A, c, HC.out.1, HC.out.2, by dsimp only; rw [← cells_app]; exact HT4.out, HB4.out⟩

set_option maxHeartbeats 4000000 in
set_option maxRecDepth 100000 in
theorem one_cons (W0 : World) (b k : Nat) (s : St) (x0 x1 x2 : Int) (r1 : ByteArray) (r2 : Bool) (w : World) (h : Tl W0 b s w) (a : ByteArray) (rest : List ByteArray) (ha : s.args = a :: rest) (hx : x0 ≠ 37) (ht : printf_spec_told.f k x0 x1 x2 a = some (r1, r2)) (hlen : s.out.length + r1.size ≤ 1000000000000) :
    Calls Tryd.prog 31 #[.pointer (some ⟨b, 0, none⟩), .agg #[.int .u8 x0, .int .u8 x1, .int .i64 x2]] w fun e w' => e = .returned (.tuple #[]) ∧ Tl W0 b ⟨s.out ++ r1.data.toList, rest, if r2 = true then s.status else 1, wrap64 (s.taken + 1)⟩ w' := by
  obtain ⟨out, args, status, taken⟩ := s
  dsimp only at ha hlen ⊢
  subst ha
  obtain ⟨A, c, h1, h2, h3, h4⟩ := h
  dsimp only [List.length_cons] at h1 h2 h3
  have hxb : (x0 == 37) = false := beq_eq_false_iff_ne.2 hx
  have HC := Lib.hid (show rest.length + 1 ≤ c ∧ Kd.C Kd.string W0 A (rest.length + 1) (a :: rest) from ⟨h1, h2⟩)
  have HB := Lib.hid h4
  have HL := Lib.hid hlen
  have HTold := Lib.hid ht
  have HBOX := Lib.hid ((Below.refl w.heap.size w).alloc (Nat.le_refl _) (Obj.cells #[Value.int .u8 x0, Value.int .u8 x1, Value.int .i64 x2] 59 (0, 0)))
  have HT := Lib.hid (h3.below HBOX.out)
  have HNE := Lib.hid (show b ≠ w.heap.size from fun e => by have := h3.lt; omega)
  obtain ⟨c2, c3, c4, cf⟩ := HT.out.cells
  have f2 := cf 2
  have f3 := cf 3
  have f4 := cf 4
  have HGE := Lib.hid (show W0.heap.size ≤ b from HT.out.elim (fun q => q.1) (fun q => q.1))
  clear h1 h2 h3 h4 hlen hx ht cf
  obtain ⟨ad, rfl, hx0⟩ := Kd.at_string (Kd.C_below HC.out.2 (HB.out.trans (HBOX.out.mono HB.out.size))) 0 (by omega) (by omega)
  have hx1 : (w.alloc (Obj.cells #[Value.int .u8 x0, Value.int .u8 x1, Value.int .i64 x2] 59 (0, 0))).cell? ad = some (.string a) := by simpa [Addr.add, rdOf] using hx0
  have mixed : Tryd.prog.follows Departure.mixedOrders = true := by kernel_rfl
  have hlc : rest.length + 1 ≤ c := HC.out.1
  clear hx0
  go_enter Tryd.func31, Tryd.ntmps31
  go_wp2_with fail
  go_region_o
  have HT2 := Lib.hid ((HT.out.set2 (Value.slice (if c = 1 then some ad else some ⟨ad.block, ad.off + 1, none⟩) rest.length (c - 1))).below ((Below.refl _ _).drew))
  have HB2 := Lib.hid (((HB.out.trans (HBOX.out.mono HB.out.size)).setCell (p := ⟨b, 2, none⟩) HGE.out (Value.slice (if c = 1 then some ad else some ⟨ad.block, ad.off + 1, none⟩) rest.length (c - 1))).drew)
  have HX2 := Lib.hid (show (World.drew (World.setCell (w.alloc (Obj.cells #[Value.int .u8 x0, Value.int .u8 x1, Value.int .i64 x2] 59 (0, 0))) ⟨b, 2, none⟩ (Value.slice (if c = 1 then some ad else some ⟨ad.block, ad.off + 1, none⟩) rest.length (c - 1)))).heap[w.heap.size]? = some (Obj.cells #[Value.int .u8 x0, Value.int .u8 x1, Value.int .i64 x2] 59 (0, 0)) from
    (Below.heap_setCell _ ⟨b, 2, none⟩ _ w.heap.size (fun e => HNE.out e.symm)).trans (heap_alloc_new w _))
  generalize (World.drew (World.setCell (w.alloc (Obj.cells #[Value.int .u8 x0, Value.int .u8 x1, Value.int .i64 x2] 59 (0, 0))) ⟨b, 2, none⟩ (Value.slice (if c = 1 then some ad else some ⟨ad.block, ad.off + 1, none⟩) rest.length (c - 1)))) = W2 at HT2 HB2 HX2 ⊢
  have HC2 := Lib.hid (show rest.length ≤ c - 1 ∧ Kd.C Kd.string W0 (if c = 1 then some ad else some ⟨ad.block, ad.off + 1, none⟩) rest.length rest from ⟨by omega, by
    have := Kd.C_drop (m := 1) HC.out.2 (by simp) HC.out.1
    simpa [Addr.add, show Kd.string.sz = 1 from rfl] using this⟩)
  clear c2 c3 c4 f2 f3 f4 hx1
  obtain ⟨c2, c3, c4, cf⟩ := HT2.out.cells
  have f4 := cf 4
  clear cf c2 c3
  generalize (if c = 1 then some ad else some (⟨ad.block, ad.off + 1, none⟩ : Addr)) = A2 at HT2 HC2 ⊢
  have hq : (W2.setCell ⟨b, 4, none⟩ (Value.int .i64 (wrap64 (taken + 1)))).heap[w.heap.size]? = some (Obj.cells #[Value.int .u8 x0, Value.int .u8 x1, Value.int .i64 x2] 59 (0, 0)) :=
    (Below.heap_setCell _ ⟨b, 4, none⟩ _ w.heap.size (fun e => HNE.out e.symm)).trans HX2.out
  have q0 : (W2.setCell ⟨b, 4, none⟩ (Value.int .i64 (wrap64 (taken + 1)))).cell? ⟨w.heap.size, 0, none⟩ = some (Value.int .u8 x0) := by rw [Lib.cell_of_heap hq]; rfl
  have q1 : (W2.setCell ⟨b, 4, none⟩ (Value.int .i64 (wrap64 (taken + 1)))).cell? ⟨w.heap.size, 1, none⟩ = some (Value.int .u8 x1) := by rw [Lib.cell_of_heap hq]; rfl
  have q2 : (W2.setCell ⟨b, 4, none⟩ (Value.int .i64 (wrap64 (taken + 1)))).cell? ⟨w.heap.size, 2, none⟩ = some (Value.int .i64 x2) := by rw [Lib.cell_of_heap hq]; rfl
  clear hq
  go_wp2_with fail
  have HBs := Lib.hid (HB2.out.setCell (p := ⟨b, 4, none⟩) HGE.out (Value.int .i64 (wrap64 (taken + 1))))
  have HTs := Lib.hid (HT2.out.set4 (Value.int .i64 (wrap64 (taken + 1))))
  refine (printf_spec_told.calls k x0 x1 x2 a r1 r2 _ HTold.out).mono ?_
  rintro e w3 ⟨rfl, hb3⟩
  have HT3 := Lib.hid (HTs.out.below hb3)
  have HB3 := Lib.hid (HBs.out.trans (hb3.mono HBs.out.size))
  clear hb3 c4 f4
  obtain ⟨c2, c3, c4, cf⟩ := HT3.out.cells
  have f3 := cf 3
  clear cf c2 c4
  cases r2 with
  | true =>
    go_wp2_with fail
    refine (tWriteString W0.heap.size b _ _ _ _ r1 _ HT3.out (by rw [Lib.byteCells_length]; have := HL.out; omega) HB3.out.size).mono ?_
    rintro e w4 ⟨rfl, ht4, hb4⟩
    have HT4 := Lib.hid ht4
    have HB4 := Lib.hid (HB3.out.trans hb4)
    clear ht4 hb4
    go_wp2_with fail
    go_end0
    exact ⟨rfl, _, c - 1, HC2.out.1, HC2.out.2, by dsimp only; rw [← cells_app]; exact HT4.out, HB4.out⟩
  | false =>
    go_wp2_with fail
    refine (tWriteString W0.heap.size b _ _ _ _ r1 _ (HT3.out.set3 (Value.int .i64 1)) (by rw [Lib.byteCells_length]; have := HL.out; omega) (HB3.out.setCell (p := ⟨b, 3, none⟩) HGE.out _).size).mono ?_
    rintro e w4 ⟨rfl, ht4, hb4⟩
    have HT4 := Lib.hid ht4
    have HB4 := Lib.hid ((HB3.out.setCell (p := ⟨b, 3, none⟩) HGE.out (Value.int .i64 1)).trans hb4)
    clear ht4 hb4
    go_wp2_with fail
    go_end0
    exact ⟨rfl, _, c - 1, HC2.out.1, HC2.out.2, by dsimp only; rw [← cells_app]; exact HT4.out, HB4.out⟩

theorem one_calls (W0 : World) (b k : Nat) (s s' : St) (x0 x1 x2 : Int) (w : World) (h : Tl W0 b s w) (hf : oneF k x0 x1 x2 s = some s') :
    Calls Tryd.prog 31 #[.pointer (some ⟨b, 0, none⟩), .agg #[.int .u8 x0, .int .u8 x1, .int .i64 x2]] w fun e w' => e = .returned (.tuple #[]) ∧ Tl W0 b s' w' := by
  unfold oneF at hf
  by_cases hx : x0 = 37
  · rw [if_pos hx] at hf
    split at hf
    · next hl =>
      injection hf with hf
      subst hf hx
      exact one_pct W0 b s x1 x2 w h hl
    · cases hf
  · rw [if_neg hx] at hf
    obtain ⟨⟨r1, r2⟩, ht, hf⟩ := Option.bind_eq_some_iff.1 hf
    dsimp only at hf
    split at hf
    · next hl =>
      injection hf with hf
      subst hf
      cases ha : s.args with
      | nil =>
        rw [ha] at ht
        exact one_nil W0 b k s x0 x1 x2 r1 r2 w h ha hx ht hl
      | cons a rest =>
        rw [ha] at ht
        exact one_cons W0 b k s x0 x1 x2 r1 r2 w h a rest ha hx ht hl
    · cases hf


end

section
open Go.RowKit Go.Proofs.YtagdkbncfcdhdaaDoorW.PrintWords

theorem tl_str (W0 : World) (b : Nat) (s : St) (x : ByteArray) (w : World) (h : Tl W0 b s w) (hlen : s.out.length + x.size ≤ 1000000000000) :
    Calls Tryd.prog 24 #[.pointer (some ⟨b, 0, none⟩), .string x] w fun e w' => e = .returned (.tuple #[.int .i64 x.size, .nilIface]) ∧ Tl W0 b ⟨s.out ++ x.data.toList, s.args, s.status, s.taken⟩ w' := by
  obtain ⟨A, c, h1, h2, h3, h4⟩ := h
  refine (tWriteString W0.heap.size b _ _ _ _ x _ h3 (by rw [Lib.byteCells_length]; omega) h4.size).mono ?_
  rintro e w2 ⟨rfl, ht, hb2⟩
  exact ⟨rfl, A, c, h1, h2, by dsimp only; rw [← cells_app]; exact ht, h4.trans hb2⟩
theorem tl_byte (W0 : World) (b : Nat) (s : St) (c : UInt8) (w : World) (h : Tl W0 b s w) (hlen : s.out.length + 1 ≤ 1000000000000) :
    Calls Tryd.prog 29 #[.pointer (some ⟨b, 0, none⟩), .int .u8 c.toNat] w fun e w' => e = .returned .nilIface ∧ Tl W0 b ⟨s.out ++ [c], s.args, s.status, s.taken⟩ w' := by
  obtain ⟨A, c', h1, h2, h3, h4⟩ := h
  refine (tWriteByte W0.heap.size b _ _ _ _ c.toNat _ h3 (by rw [Lib.byteCells_length]; omega) h4.size).mono ?_
  rintro e w2 ⟨rfl, ht, hb2⟩
  exact ⟨rfl, A, c', h1, h2, by dsimp only; rw [← cells_snoc]; exact ht, h4.trans hb2⟩
theorem Tl.fault {W0 : World} {b : Nat} {s : St} {w : World} (h : Tl W0 b s w) : Tl W0 b ⟨s.out, s.args, 1, s.taken⟩ (w.setCell ⟨b, 3, none⟩ (.int .i64 1)) := by
  obtain ⟨A, c, h1, h2, h3, h4⟩ := h
  exact ⟨A, c, h1, h2, h3.set3 _, h4.setCell (p := ⟨b, 3, none⟩) (h3.elim (fun q => q.1) (fun q => q.1)) _⟩
theorem Tl.cell3 {W0 : World} {b : Nat} {s : St} {w : World} (h : Tl W0 b s w) : w.cell? ⟨b, 3, none⟩ = some (.int .i64 s.status) ∧ w.frozen? ⟨b, 3, none⟩ = false := by
  obtain ⟨A, c, h1, h2, h3, h4⟩ := h
  exact ⟨h3.cells.2.1, h3.cells.2.2.2 3⟩

/-- What a format does to a teller. -/
def onceF (kk : Nat) : Nat → ByteArray → St → Option (St × Bool)
  | 0, _, _ => none
  | n + 1, x, s => if x.size = 0 then some (s, true) else
    (Q.printf_escape.f 8 x).bind fun e =>
      if 0 < e.2 then (if e.2 ≤ x.size ∧ s.out.length + e.1.size ≤ 1000000000000 then onceF kk n (x.extract e.2.toNat x.size) ⟨s.out ++ e.1.data.toList, s.args, s.status, s.taken⟩ else none)
      else if (x.data.toList.headD 0) ≠ 37 then (if s.out.length + 1 ≤ 1000000000000 then onceF kk n (x.extract 1 x.size) ⟨s.out ++ [x.data.toList.headD 0], s.args, s.status, s.taken⟩ else none)
      else (Q.printf_conversion.f 20 (x.extract 1 x.size)).bind fun c =>
        if c.2.2.2.2 = true then (oneF kk c.1 c.2.1 c.2.2.1 s).bind fun s' => (if 0 ≤ c.2.2.2.1 ∧ 1 + c.2.2.2.1 ≤ x.size then onceF kk n (x.extract (1 + c.2.2.2.1).toNat x.size) s' else none)
        else some (⟨s.out, s.args, 1, s.taken⟩, false)

set_option maxHeartbeats 8000000 in
set_option maxRecDepth 100000 in
theorem once_calls (W0 : World) (b kk n : Nat) (a0 : ByteArray) (s R : St) (ok : Bool) (w : World) (h : Tl W0 b s w) (hf : onceF kk n a0 s = some (R, ok)) (hsz : a0.size ≤ 1000000000) :
    Calls Tryd.prog 20 #[.pointer (some ⟨b, 0, none⟩), .string a0] w fun e w' => e = .returned (.bool ok) ∧ Tl W0 b R w' := by
  have HT := Lib.hid h
  have HF := Lib.hid hf
  have HSZ := Lib.hid hsz
  clear h hf hsz
  go_enter Tryd.func20, Tryd.ntmps20
  go_wp2_with fail
  go_loopw [1] (fun i wr => ∃ (k : Nat) (x : ByteArray) (q : St), i = .string x ∧ onceF kk k x q = some (R, ok) ∧ x.size ≤ 1000000000 ∧ Tl W0 b q wr) (fun i _ => strLen i)
  case atStart => exact ⟨n, a0, s, rfl, HF.out, HSZ.out, HT.out⟩
  case round =>
    obtain ⟨k, x, q, rfl, hk, hxs, htl⟩ := hrel
    cases k with
    | zero => cases hk
    | succ k =>
    rw [onceF] at hk
    by_cases hx : x.size = 0
    · rw [if_pos hx] at hk
      injection hk with hk
      injection hk with hk1 hk2
      subst hk1 hk2
      have hx2 := size_nil hx
      have HTL := Lib.hid htl
      clear htl hxs hx
      go_wp2_with fail
      go_ret
      exact ⟨rfl, HTL.out⟩
    · rw [if_neg hx] at hk
      have hx2 := size_pos hx
      obtain ⟨⟨t, n⟩, he, hk⟩ := Option.bind_eq_some_iff.1 hk
      dsimp only at hk
      have HE := Lib.hid he
      have HTL := Lib.hid htl
      have HXS := Lib.hid hxs
      clear htl he hxs
      by_cases hn : 0 < n
      · rw [if_pos hn] at hk
        split at hk
        case isFalse => cases hk
        rename_i hrg
        obtain ⟨hn1, ho1⟩ := hrg
        have HK := Lib.hid hk
        have HO := Lib.hid ho1
        have HN := Lib.hid hn
        have HX := Lib.hid hx
        have hn0 : 0 ≤ n := by omega
        have hnb : decide (0 < n) = true := decide_eq_true hn
        clear ho1 hk hx
        go_wp2_with fail
        refine (Q.printf_escape.calls 8 x t n _ HE.out).mono ?_
        rintro e w' ⟨rfl, hb1⟩
        have HT2 := Lib.hid (HTL.out.below hb1)
        clear hb1
        go_wp2_with fail
        refine (tl_str W0 b q t _ HT2.out HO.out).mono ?_
        rintro e w2 ⟨rfl, ht3⟩
        have HT3 := Lib.hid ht3
        clear ht3
        go_wp2_with fail
        go_roundw
        case rel => exact ⟨k, _, _, rfl, HK.out, by rw [ByteArray.size_extract]; have := HXS.out; omega, HT3.out⟩
        case measure =>
          have h1 := HX.out
          have h2 := HN.out
          simp only [strLen, ByteArray.size_extract]
          omega
      · rw [if_neg hn] at hk
        have hnb : decide (0 < n) = false := decide_eq_false hn
        have hx1 : (1 : Int) ≤ x.size := by omega
        have hx0 : 0 < x.size := by omega
        have HN := Lib.hid hn
        have hc0 : x.data.toList.headD 0 = x[0] := by
          have h1 : x.data.toList[0]? = some x[0] := by
            rw [List.getElem?_eq_getElem (by simpa using hx0)]
            simp
            rfl
          rw [List.headD_eq_head?_getD, List.head?_eq_getElem?, h1]
          rfl
        rw [hc0] at hk
        by_cases hp : x[0] ≠ 37
        · rw [if_pos hp] at hk
          have hp1 : (((x[0].toNat : Nat) : Int) != 37) = true := by
            rw [bne_iff_ne]
            intro e
            exact hp (UInt8.toNat_inj.1 (by show _ = 37; omega))
          split at hk
          case isFalse => cases hk
          rename_i ho1
          have HK := Lib.hid hk
          have HO := Lib.hid ho1
          have HX := Lib.hid hx
          clear ho1 hk hx
          go_wp2_with fail
          refine (Q.printf_escape.calls 8 x t n _ HE.out).mono ?_
          rintro e w' ⟨rfl, hb1⟩
          have HT2 := Lib.hid (HTL.out.below hb1)
          clear hb1
          go_wp2_with fail
          go_region_with (go_at_call 29; refine (tl_byte W0 b q x[0] _ (HT2.out.below (by first | exact Below.refl _ _ | exact (Below.refl _ _).drew)) HO.out).mono ?_; rintro e w2 ⟨rfl, ht3⟩; have HT3 := Lib.hid ht3; clear ht3)
          go_wp2_with fail
          go_roundw
          case rel => exact ⟨k, _, _, rfl, HK.out, by rw [ByteArray.size_extract]; have := HXS.out; omega, HT3.out⟩
          case measure =>
            have h1 := HX.out
            simp only [strLen, ByteArray.size_extract]
            omega
        · rw [if_neg hp] at hk
          have hp0 : x[0] = 37 := Classical.not_not.1 hp
          have hp1 : (((x[0].toNat : Nat) : Int) != 37) = false := by rw [hp0]; rfl
          obtain ⟨⟨r1, r2, r3, r4, r5⟩, hcv, hk⟩ := Option.bind_eq_some_iff.1 hk
          dsimp only at hk
          have HCV := Lib.hid hcv
          have HX := Lib.hid hx
          have HK := Lib.hid hk
          clear hcv hk hx hp hp0
          go_wp2_with fail
          refine (Q.printf_escape.calls 8 x t n _ HE.out).mono ?_
          rintro e w' ⟨rfl, hb1⟩
          have HT2 := Lib.hid (HTL.out.below hb1)
          clear hb1
          go_wp2_with fail
          refine (Q.printf_conversion.calls 20 (x.extract 1 x.size) r1 r2 r3 r4 r5 _ HCV.out).mono ?_
          rintro e w2 ⟨rfl, hb2⟩
          have HT3 := Lib.hid ((HT2.out.below hb2).below ((Below.refl _ _).alloc (Nat.le_refl _) (Obj.cells #[Value.int .u8 r1, Value.int .u8 r2, Value.int .i64 r3] 59 (0, 0))))
          clear hb2
          cases r5 with
          | false =>
            have hk := HK.out
            rw [if_neg (by simp)] at hk
            injection hk with hk
            injection hk with hk1 hk2
            subst hk1 hk2
            obtain ⟨c3, f3⟩ := HT3.out.cell3
            go_wp2_with fail
            go_ret
            exact ⟨rfl, HT3.out.fault⟩
          | true =>
            have hk := HK.out
            rw [if_pos rfl] at hk
            obtain ⟨s2, h1, hk⟩ := Option.bind_eq_some_iff.1 hk
            split at hk
            case isFalse => cases hk
            rename_i hrg
            obtain ⟨hn0, hn1⟩ := hrg
            have HK2 := Lib.hid hk
            have H1 := Lib.hid h1
            have hw : wrap64 (1 + r4) = 1 + r4 := by
              have := HXS.out
              unfold wrap64
              omega
            have hw0 : 0 ≤ 1 + r4 := by omega
            have HN0 := Lib.hid hn0
            clear hk h1
            go_wp2_with fail
            refine (one_calls W0 b kk q s2 r1 r2 r3 _ HT3.out H1.out).mono ?_
            rintro e w3 ⟨rfl, ht4⟩
            have HT4 := Lib.hid ht4
            clear ht4
            go_wp2_with fail
            go_roundw
            case rel => exact ⟨k, _, _, rfl, HK2.out, by rw [ByteArray.size_extract]; have := HXS.out; omega, HT4.out⟩
            case measure =>
              have h1 := HX.out
              have h2 := HN0.out
              simp only [strLen, ByteArray.size_extract]
              omega

end

section
open Go.RowKit Go.Proofs.YtagdkbncfcdhdaaDoorW.PrintWords

/-- Again and again, while there are words left and it takes any. -/
def formatF (kk : Nat) (x : ByteArray) : Nat → St → Option St
  | 0, _ => none
  | n + 1, s => (onceF kk (x.size + 1) x s).bind fun r => if r.2 = true then (if r.1.args.length = 0 then some r.1 else (if 0 < r.1.taken then formatF kk x n r.1 else some r.1)) else some r.1
def printf_Format.f (a0 : ByteArray) (l1 : List ByteArray) : Option (ByteArray × Int) :=
  if a0.size ≤ 1000000000 then (formatF 200 a0 (l1.length + 2) ⟨[], l1, 0, 0⟩).map fun s => (⟨s.out.toArray⟩, s.status) else none

theorem Tl.cell24 {W0 : World} {b : Nat} {s : St} {w : World} (h : Tl W0 b s w) : (∃ A c, w.cell? ⟨b, 2, none⟩ = some (.slice A s.args.length c)) ∧ w.cell? ⟨b, 4, none⟩ = some (.int .i64 s.taken) := by
  obtain ⟨A, c, h1, h2, h3, h4⟩ := h
  exact ⟨⟨A, c, h3.cells.1⟩, h3.cells.2.2.1⟩
theorem Tl.fresh (A : Option Addr) (c : Nat) (l : List ByteArray) (w : World) (hr : Kd.C Kd.string w A l.length l) (hc : l.length ≤ c) :
    Tl w w.heap.size ⟨[], l, 0, 0⟩ (w.alloc (.cells #[.pointer none, .slice none 0 0, .slice A l.length c, .int .i64 0, .int .i64 0] 43 (0, 0))) := by
  refine ⟨A, c, hc, hr, .inl ⟨Nat.le_refl _, .slice none 0 0, heap_alloc_new w _, ⟨rfl, .inl ⟨rfl, rfl⟩⟩, by simp [Value.ownBlock]⟩, (Below.refl _ _).alloc (Nat.le_refl _) _⟩

set_option maxHeartbeats 4000000 in
set_option maxRecDepth 100000 in
theorem printf_Format.calls (a0 : ByteArray) (A1 : Option Addr) (c1 : Nat) (l1 : List ByteArray) (r1 : ByteArray) (r2 : Int) (w : World) (hr1 : Kd.C Kd.string w A1 l1.length l1) (hc1 : l1.length ≤ c1) (h : printf_Format.f a0 l1 = some (r1, r2)) :
    Calls Tryd.prog 9 #[.string a0, .slice A1 l1.length c1] w fun e w' => e = .returned (.tuple #[.string r1, .int .i64 r2]) ∧ Below w.heap.size w w' := by
  unfold printf_Format.f at h
  split at h
  case isFalse => cases h
  rename_i hsz
  obtain ⟨R, hR, hE⟩ := Option.map_eq_some_iff.1 h
  injection hE with hE1 hE2
  subst hE1 hE2
  clear h
  have HR := Lib.hid hR
  have HSZ := Lib.hid hsz
  have HT := Lib.hid (Tl.fresh A1 c1 l1 w hr1 hc1)
  clear hR hsz hr1 hc1
  go_enter Tryd.func9, Tryd.ntmps9
  go_wp2_with fail
  go_loopg [] (l1.length + 2) (fun kq w2 => ∃ q : St, formatF 200 a0 kq q = some R ∧ Tl w w.heap.size q w2)
  case atStart => exact ⟨_, HR.out, HT.out⟩
  case round =>
    obtain ⟨q, hk, htl⟩ := hrel
    cases gk with
    | zero => cases hk
    | succ k1 =>
    rw [formatF] at hk
    obtain ⟨⟨s2, ok⟩, h1, hk⟩ := Option.bind_eq_some_iff.1 hk
    dsimp only at hk
    have HTL := Lib.hid htl
    have H1 := Lib.hid h1
    have HSZ2 := Lib.hid HSZ.out
    clear htl h1
    cases ok with
    | false =>
      rw [if_neg (by simp)] at hk
      injection hk with hk
      subst hk
      go_wp2_with fail
      refine (once_calls w w.heap.size 200 (a0.size + 1) a0 q s2 false _ HTL.out H1.out HSZ2.out).mono ?_
      rintro e w2 ⟨rfl, ht2⟩
      have HT2 := Lib.hid ht2
      clear ht2
      obtain ⟨⟨A2, c2, e2⟩, e4⟩ := HT2.out.cell24
      obtain ⟨e3, f3⟩ := HT2.out.cell3
      go_wp2_with fail
      have mixed : Tryd.prog.follows Departure.mixedOrders = true := by kernel_rfl
      obtain ⟨A3, c3, g1, g2, g3, g4⟩ := HT2.out
      have G3 := Lib.hid g3
      have G4 := Lib.hid g4
      clear g1 g2 g3 g4
      go_region_with (go_at_call 21; refine (tString w.heap.size w.heap.size s2.out _ _ _ _ (G3.out.below (by first | exact Below.refl _ _ | exact (Below.refl _ _).drew)) (by first | exact G4.out.size | exact (G4.out.drew).size)).mono ?_; rintro e w3 ⟨rfl, hb3, hk3⟩; have HB3 := Lib.hid (show Below w.heap.size w w3 from by first | exact G4.out.trans hb3 | exact (G4.out.drew).trans hb3); have d3 : w3.cell? ⟨w.heap.size, 3, none⟩ = some (.int .i64 s2.status) := (by unfold World.cell? at e3 ⊢; rw [hk3]; exact e3); clear hb3 hk3)
      all_goals (go_wp2_with fail; go_ret2; exact ⟨rfl, HB3.out⟩)
    | true =>
      rw [if_pos rfl] at hk
      by_cases hz : s2.args.length = 0
      · rw [if_pos hz] at hk
        injection hk with hk
        subst hk
        go_wp2_with fail
        refine (once_calls w w.heap.size 200 (a0.size + 1) a0 q s2 true _ HTL.out H1.out HSZ2.out).mono ?_
        rintro e w2 ⟨rfl, ht2⟩
        have HT2 := Lib.hid ht2
        clear ht2
        obtain ⟨⟨A2, c2, e2⟩, e4⟩ := HT2.out.cell24
        rw [hz] at e2
        obtain ⟨e3, f3⟩ := HT2.out.cell3
        go_wp2_with fail
        have mixed : Tryd.prog.follows Departure.mixedOrders = true := by kernel_rfl
        obtain ⟨A3, c3, g1, g2, g3, g4⟩ := HT2.out
        have G3 := Lib.hid g3
        have G4 := Lib.hid g4
        clear g1 g2 g3 g4
        go_region_with (go_at_call 21; refine (tString w.heap.size w.heap.size s2.out _ _ _ _ (G3.out.below (by first | exact Below.refl _ _ | exact (Below.refl _ _).drew)) (by first | exact G4.out.size | exact (G4.out.drew).size)).mono ?_; rintro e w3 ⟨rfl, hb3, hk3⟩; have HB3 := Lib.hid (show Below w.heap.size w w3 from by first | exact G4.out.trans hb3 | exact (G4.out.drew).trans hb3); have d3 : w3.cell? ⟨w.heap.size, 3, none⟩ = some (.int .i64 s2.status) := (by unfold World.cell? at e3 ⊢; rw [hk3]; exact e3); clear hb3 hk3)
        all_goals (go_wp2_with fail; go_ret2; exact ⟨rfl, HB3.out⟩)
      · rw [if_neg hz] at hk
        have hz1 : decide (0 < (s2.args.length : Int)) = true := decide_eq_true (by omega)
        have hz2 : 0 < s2.args.length := by omega
        by_cases ht : 0 < s2.taken
        · rw [if_pos ht] at hk
          have ht1 : decide (0 < s2.taken) = true := decide_eq_true ht
          have HK := Lib.hid hk
          go_wp2_with fail
          refine (once_calls w w.heap.size 200 (a0.size + 1) a0 q s2 true _ HTL.out H1.out HSZ2.out).mono ?_
          rintro e w2 ⟨rfl, ht2⟩
          have HT2 := Lib.hid ht2
          clear ht2
          obtain ⟨⟨A2, c2, e2⟩, e4⟩ := HT2.out.cell24
          go_wp2_with fail
          go_roundg k1
          case measure => omega
          case rel => exact ⟨s2, HK.out, HT2.out⟩
        · rw [if_neg ht] at hk
          have ht1 : decide (0 < s2.taken) = false := decide_eq_false ht
          injection hk with hk
          subst hk
          go_wp2_with fail
          refine (once_calls w w.heap.size 200 (a0.size + 1) a0 q s2 true _ HTL.out H1.out HSZ2.out).mono ?_
          rintro e w2 ⟨rfl, ht2⟩
          have HT2 := Lib.hid ht2
          clear ht2
          obtain ⟨⟨A2, c2, e2⟩, e4⟩ := HT2.out.cell24
          obtain ⟨e3, f3⟩ := HT2.out.cell3
          go_wp2_with fail
          have mixed : Tryd.prog.follows Departure.mixedOrders = true := by kernel_rfl
          obtain ⟨A3, c3, g1, g2, g3, g4⟩ := HT2.out
          have G3 := Lib.hid g3
          have G4 := Lib.hid g4
          clear g1 g2 g3 g4
          go_region_with (go_at_call 21; refine (tString w.heap.size w.heap.size s2.out _ _ _ _ (G3.out.below (by first | exact Below.refl _ _ | exact (Below.refl _ _).drew)) (by first | exact G4.out.size | exact (G4.out.drew).size)).mono ?_; rintro e w3 ⟨rfl, hb3, hk3⟩; have HB3 := Lib.hid (show Below w.heap.size w w3 from by first | exact G4.out.trans hb3 | exact (G4.out.drew).trans hb3); have d3 : w3.cell? ⟨w.heap.size, 3, none⟩ = some (.int .i64 s2.status) := (by unfold World.cell? at e3 ⊢; rw [hk3]; exact e3); clear hb3 hk3)
          all_goals (go_wp2_with fail; go_ret2; exact ⟨rfl, HB3.out⟩)


end
end Go.Proofs.YtagdkbncfcdhdaaDoor.Ext

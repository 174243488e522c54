/- Proved: what the calls of texts.Translate and texts.Delete answer: the text with each octet turned by the two sets, or without the set's octets. Condition: the text is of at most 10 to the 9 octets. -/
import Derived.Test.YtbckpnioimhgcaaDoorTurn
import Derived.Test.YtbckpnioimhgcaaDoorEsc
set_option linter.unusedVariables false
namespace Go.Proofs.YtbckpnioimhgcaaDoor.Ext
open Go.RowKit Go.Proofs.YtbckpnioimhgcaaDoorW.PrintWords

def transF (a b : ByteArray) (c : Nat) : Int × Bool :=
  (if Lib.indexByte a.data.toList c.toUInt8 < 0 then (c : Int) else ((b.data.toList.getD (min (Lib.indexByte a.data.toList c.toUInt8) ((b.size : Int) - 1)).toNat 0).toNat : Nat), true)
def delF (a : ByteArray) (c : Nat) : Int × Bool := (c, decide (Lib.indexByte a.data.toList c.toUInt8 < 0))

theorem u8_back (c : UInt8) : (c.toNat : Int).toNat.toUInt8 = c := by simp

theorem getD_ba (b : ByteArray) (k : Nat) (h : k < b.size) : b.data.toList.getD k 0 = b[k] := by
  rw [List.getD_eq_getElem?_getD, List.getElem?_eq_getElem (by simpa using h)]
  simp
  rfl
theorem idx_size (a : ByteArray) (c : UInt8) : Lib.indexByte a.data.toList c < a.size := by
  have := idx_lt a.data.toList c
  simpa using this

set_option maxHeartbeats 1000000 in
theorem delete_fn (A : Nat) (a : ByteArray) (w W : World) (c : UInt8) (hA : A < w.heap.size) (ha : w.cell? ⟨A, 0, none⟩ = some (.string a)) (hb : Below w.heap.size w W) :
    Calls Tryd.prog 22 #[.int .u8 c.toNat, .pointer (some ⟨A, 0, none⟩)] W fun e w' => e = .returned (.tuple #[.int .u8 (delF a c.toNat).1, .bool (delF a c.toNat).2]) ∧ Below W.heap.size W w' := by
  have hc : W.cell? ⟨A, 0, none⟩ = some (.string a) := (hb.cell (p := ⟨A, 0, none⟩) hA).trans ha
  have hi := Lib.hid (Tryd.strings_IndexByte a c.toNat)
  have hu : c.toNat.toUInt8 = c := by simp
  unfold delF
  rw [u8_back] at hi
  rw [hu]
  generalize Lib.indexByte a.data.toList c = n at *
  go_enter Tryd.func22, Tryd.ntmps22
  go_wp2_with (go_at_call 21; refine (hi.out _).mono ?_; rintro e w' ⟨rfl, rfl⟩)
  go_ret2
  exact ⟨rfl, by first | exact Below.refl _ _ | exact (Below.refl _ _).drew⟩

set_option maxHeartbeats 1000000 in
theorem translate_fn (A B : Nat) (a b : ByteArray) (w W : World) (c : UInt8) (hA : A < w.heap.size) (ha : w.cell? ⟨A, 0, none⟩ = some (.string a)) (hB : B < w.heap.size) (hbb : w.cell? ⟨B, 0, none⟩ = some (.string b)) (hb : Below w.heap.size w W)
    (h0 : b.size = 0 → a.size = 0) (hsz : b.size ≤ 1000000000000) :
    Calls Tryd.prog 20 #[.int .u8 c.toNat, .pointer (some ⟨A, 0, none⟩), .pointer (some ⟨B, 0, none⟩)] W fun e w' => e = .returned (.tuple #[.int .u8 (transF a b c.toNat).1, .bool (transF a b c.toNat).2]) ∧ Below W.heap.size W w' := by
  have hc : W.cell? ⟨A, 0, none⟩ = some (.string a) := (hb.cell (p := ⟨A, 0, none⟩) hA).trans ha
  have hd : W.cell? ⟨B, 0, none⟩ = some (.string b) := (hb.cell (p := ⟨B, 0, none⟩) hB).trans hbb
  have hi := Lib.hid (Tryd.strings_IndexByte a c.toNat)
  have hu : c.toNat.toUInt8 = c := by simp
  have hlt := idx_size a c
  unfold transF
  rw [u8_back] at hi
  rw [hu]
  generalize Lib.indexByte a.data.toList c = n at *
  by_cases hn : n < 0
  · rw [if_pos hn]
    go_enter Tryd.func20, Tryd.ntmps20
    go_wp2_with (go_at_call 21; refine (hi.out _).mono ?_; rintro e w' ⟨rfl, rfl⟩)
    go_ret2
    exact ⟨rfl, by first | exact Below.refl _ _ | exact (Below.refl _ _).drew⟩
  · rw [if_neg hn]
    have hbs : 0 < b.size := by
      rcases Nat.eq_zero_or_pos b.size with h | h
      · have := h0 h; omega
      · exact h
    go_enter Tryd.func20, Tryd.ntmps20
    go_wp2_with (go_at_call 21; refine (hi.out _).mono ?_; rintro e w' ⟨rfl, rfl⟩)
    rename_i hrg _
    go_ret2
    refine ⟨?_, by first | exact Below.refl _ _ | exact (Below.refl _ _).drew⟩
    rw [getD_ba b (min n ((b.size : Int) - 1)).toNat (by omega)]
    rfl

def texts_Translate.f (s from_ to_ : ByteArray) : Option (ByteArray × Bool) :=
  if s.size ≤ 1000000000 then
    (texts_Set.f from_).bind fun a => (texts_Set.f to_).bind fun b =>
      if a.2 = true ∧ b.2 = true ∧ (b.1.size = 0 → a.1.size = 0) then (if b.1.size ≤ 1000000000000 then some (strOfNums (turnL (transF a.1 b.1) s.data.toList), true) else none) else some (⟨#[]⟩, false)
  else none
def texts_Delete.f (s set : ByteArray) : Option (ByteArray × Bool) :=
  if s.size ≤ 1000000000 then
    (texts_Set.f set).bind fun a => if a.2 = true then some (strOfNums (turnL (delF a.1) s.data.toList), true) else some (⟨#[]⟩, false)
  else none

set_option maxHeartbeats 2000000 in
theorem texts_Delete.calls (a0 a1 : ByteArray) (r1 : ByteArray) (r2 : Bool) (w : World) (h : texts_Delete.f a0 a1 = some (r1, r2)) :
    Calls Tryd.prog 10 #[.string a0, .string a1] w fun e w' => e = .returned (.tuple #[.string r1, .bool r2]) ∧ Below w.heap.size w w' := by
  unfold texts_Delete.f at h
  split at h
  case isFalse => cases h
  rename_i hsz
  obtain ⟨⟨a, x⟩, ha, h⟩ := Option.bind_eq_some_iff.1 h
  dsimp only at h
  have HA := Lib.hid ha
  have HSZ := Lib.hid hsz
  clear ha hsz
  have eg := enters_of Tryd.func22 (by kernel_rfl) rfl
  cases x
  · rw [if_neg (by simp)] at h
    simp only [Option.some.injEq, Prod.mk.injEq] at h
    obtain ⟨rfl, rfl⟩ := h
    go_enter Tryd.func10, Tryd.ntmps10
    go_wp2_with fail
    refine (texts_Set.calls a1 a false _ HA.out).mono ?_
    rintro e w1 ⟨rfl, hb1⟩
    have HB1 := Lib.hid hb1
    clear hb1
    go_wp2_with fail
    go_ret2
    exact ⟨rfl, HB1.out.alloc HB1.out.size _⟩
  · rw [if_pos rfl] at h
    simp only [Option.some.injEq, Prod.mk.injEq] at h
    obtain ⟨rfl, rfl⟩ := h
    go_enter Tryd.func10, Tryd.ntmps10
    go_wp2_with fail
    refine (texts_Set.calls a1 a true _ HA.out).mono ?_
    rintro e w1 ⟨rfl, hb1⟩
    have HB1 := Lib.hid hb1
    clear hb1
    have HT := Lib.hid (fun W (hA : w1.heap.size < W.heap.size) (hc : W.cell? ⟨w1.heap.size, 0, none⟩ = some (.string a)) =>
      turned_calls 22 #[.pointer (some ⟨w1.heap.size, 0, none⟩)] (delF a) a0 W eg (fun W2 c hb => delete_fn w1.heap.size a W W2 c hA hc hb) HSZ.out)
    go_wp2_with fail
    refine (HT.out _ (by simp) (by simp)).mono ?_
    rintro e w2 ⟨rfl, hb2⟩
    have HB2 := Lib.hid hb2
    clear hb2
    go_wp2_with fail
    go_ret2
    exact ⟨rfl, (HB1.out.alloc HB1.out.size _).trans (HB2.out.mono (by have := HB1.out.size; simp; omega))⟩

set_option maxHeartbeats 4000000 in
theorem texts_Translate.calls (a0 a1 a2 : ByteArray) (r1 : ByteArray) (r2 : Bool) (w : World) (h : texts_Translate.f a0 a1 a2 = some (r1, r2)) :
    Calls Tryd.prog 9 #[.string a0, .string a1, .string a2] w fun e w' => e = .returned (.tuple #[.string r1, .bool r2]) ∧ Below w.heap.size w w' := by
  unfold texts_Translate.f at h
  split at h
  case isFalse => cases h
  rename_i hsz
  obtain ⟨⟨a, x⟩, ha, h⟩ := Option.bind_eq_some_iff.1 h
  obtain ⟨⟨b, y⟩, hb, h⟩ := Option.bind_eq_some_iff.1 h
  dsimp only at h
  have HA := Lib.hid ha
  have HB := Lib.hid hb
  have HSZ := Lib.hid hsz
  clear ha hb hsz
  have eg := enters_of Tryd.func20 (by kernel_rfl) rfl
  by_cases hok : x = true ∧ y = true ∧ (b.size = 0 → a.size = 0)
  · rw [if_pos hok] at h
    obtain ⟨rfl, rfl, h0⟩ := hok
    split at h
    case isFalse => cases h
    rename_i hbs
    simp only [Option.some.injEq, Prod.mk.injEq] at h
    obtain ⟨rfl, rfl⟩ := h
    have H0 := Lib.hid h0
    have HBS := Lib.hid hbs
    have hcase : b.toList.isEmpty = false ∨ (b.toList.isEmpty = true ∧ a.toList.isEmpty = true) := by
      by_cases hb0 : b.size = 0
      · exact .inr ⟨size_nil hb0, size_nil (h0 hb0)⟩
      · exact .inl (size_pos hb0)
    clear h0 hbs
    rcases hcase with e1 | ⟨e1, e2⟩
    all_goals
      go_enter Tryd.func9, Tryd.ntmps9
      go_wp2_with fail
      refine (texts_Set.calls a1 a true _ HA.out).mono ?_
      rintro e w1 ⟨rfl, hb1⟩
      have HB1 := Lib.hid hb1
      clear hb1
      go_wp2_with fail
      refine (texts_Set.calls a2 b true _ HB.out).mono ?_
      rintro e w2 ⟨rfl, hb2⟩
      have hlt : w1.heap.size < w2.heap.size := by
        have := hb2.size
        simp at this
        omega
      have hca : w2.cell? ⟨w1.heap.size, 0, none⟩ = some (.string a) := (hb2.cell (p := ⟨w1.heap.size, 0, none⟩) (by simp)).trans (by simp)
      have HB2 := Lib.hid ((HB1.out.alloc HB1.out.size _).trans (hb2.mono (by have := HB1.out.size; simp; omega)))
      clear hb2
      have HT := Lib.hid (fun W (hA : w1.heap.size < W.heap.size) (hc : W.cell? ⟨w1.heap.size, 0, none⟩ = some (.string a)) (hB : w2.heap.size < W.heap.size) (hd : W.cell? ⟨w2.heap.size, 0, none⟩ = some (.string b)) =>
        turned_calls 20 #[.pointer (some ⟨w1.heap.size, 0, none⟩), .pointer (some ⟨w2.heap.size, 0, none⟩)] (transF a b) a0 W eg (fun W2 c hb => translate_fn w1.heap.size w2.heap.size a b W W2 c hA hc hB hd hb H0.out HBS.out) HSZ.out)
      go_wp2_with fail
      refine (HT.out _ (by simp; omega) (by rw [World.cell?_alloc_old _ _ _ (by show w1.heap.size ≠ w2.heap.size; omega)]; exact hca) (by simp) (by simp)).mono ?_
      rintro e w3 ⟨rfl, hb3⟩
      have HB3 := Lib.hid hb3
      clear hb3
      go_wp2_with fail
      go_ret2
      exact ⟨rfl, (HB2.out.alloc HB2.out.size _).trans (HB3.out.mono (by have := HB2.out.size; simp; omega))⟩
  · rw [if_neg hok] at h
    simp only [Option.some.injEq, Prod.mk.injEq] at h
    obtain ⟨rfl, rfl⟩ := h
    have hcase : x = false ∨ (x = true ∧ y = false) ∨ (x = true ∧ y = true ∧ b.toList.isEmpty = true ∧ a.toList.isEmpty = false) := by
      cases x
      · exact .inl rfl
      · cases y
        · exact .inr (.inl ⟨rfl, rfl⟩)
        · refine .inr (.inr ⟨rfl, rfl, ?_⟩)
          by_cases hb0 : b.size = 0
          · refine ⟨size_nil hb0, ?_⟩
            by_cases ha0 : a.size = 0
            · exact absurd ⟨rfl, rfl, fun _ => ha0⟩ hok
            · exact size_pos ha0
          · exact absurd ⟨rfl, rfl, fun e => absurd e hb0⟩ hok
    clear hok
    rcases hcase with rfl | ⟨rfl, rfl⟩ | ⟨rfl, rfl, e1, e2⟩
    all_goals
      go_enter Tryd.func9, Tryd.ntmps9
      go_wp2_with fail
      refine (texts_Set.calls a1 a _ _ HA.out).mono ?_
      rintro e w1 ⟨rfl, hb1⟩
      have HB1 := Lib.hid hb1
      clear hb1
      go_wp2_with fail
      refine (texts_Set.calls a2 b _ _ HB.out).mono ?_
      rintro e w2 ⟨rfl, hb2⟩
      have hlt : w1.heap.size < w2.heap.size := by
        have := hb2.size
        simp at this
        omega
      have hca : w2.cell? ⟨w1.heap.size, 0, none⟩ = some (.string a) := (hb2.cell (p := ⟨w1.heap.size, 0, none⟩) (by simp)).trans (by simp)
      have HB2 := Lib.hid ((HB1.out.alloc HB1.out.size _).trans (hb2.mono (by have := HB1.out.size; simp; omega)))
      clear hb2
      go_wp2_with fail
      go_ret2
      exact ⟨rfl, HB2.out.alloc HB2.out.size _⟩

end Go.Proofs.YtbckpnioimhgcaaDoor.Ext

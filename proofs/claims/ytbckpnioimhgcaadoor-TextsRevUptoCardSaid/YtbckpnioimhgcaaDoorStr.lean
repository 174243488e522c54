/- Proved: the calls of strings.IndexByte, strings.Cut, strings.SplitAfter, strings.Join in the print's form (the shelf's contracts, and two short walks). Conditions: Cut and SplitAfter at a separator of one octet, texts shorter than 4294967281; Join of at most 10 to the 9 texts of at most 10 to the 12 octets. -/
import Derived.Test.YtbckpnioimhgcaaDoorShelf
import Derived.Test.YtbckpnioimhgcaaDoorWWords
import Derived.Test.YtbckpnioimhgcaaDoorWApart
import Derived.Lib.SplitLaws
import Derived.Lib.Hide
namespace Go.Proofs.YtbckpnioimhgcaaDoor.Ext
open Go.RowKit Go.Proofs.YtbckpnioimhgcaaDoorW.PrintWords

def strings_IndexByte.f (a0 : ByteArray) (a1 : Int) : Option Int := some (Lib.indexByte a0.data.toList a1.toNat.toUInt8)
theorem strings_IndexByte.calls (a0 : ByteArray) (a1 : Int) (r : Int) (w : World) (h : strings_IndexByte.f a0 a1 = some r) :
    Calls Tryd.prog 21 #[.string a0, .int .u8 a1] w fun e w' => e = .returned (.int .i64 r) ∧ Drawn0 w w' := by
  obtain rfl := Option.some.inj h
  refine (Tryd.strings_IndexByte a0 a1 w).mono ?_
  rintro e w' ⟨he, rfl⟩
  exact ⟨he, Drawn0.refl _⟩

theorem row_strings {W : World} {B : Nat} {v : Value} {l : List ByteArray} (h : W.ownsRow B 9 1 v l.length (l.map Value.string)) : Kd.S Kd.string 9 W B (fun _ => True) v l := by
  refine Kd.S_bare ⟨fun _ _ => trivial, l.map Value.string, h, by rw [List.length_map]; exact (Nat.mul_one _).symm, fun j p hj => ?_⟩
  show ((l.map Value.string).drop (j * 1)).take 1 = [Value.string p]
  obtain ⟨hj1, hj2⟩ := List.getElem?_eq_some_iff.1 hj
  rw [Nat.mul_one, List.drop_eq_getElem_cons (by rw [List.length_map]; exact hj1), List.take_succ_cons, List.take_zero, List.getElem_map, hj2]
theorem cells_of_strings {W : World} {A : Option Addr} {l : List ByteArray} (h : Kd.C Kd.string W A l.length l) (hp : 0 < l.length) : ∃ ad, A = some ad ∧ ∀ (j : Nat) x, l[j]? = some x → W.cell? (ad.add j) = some (.string x) := by
  obtain ⟨ad, e, hc⟩ := h.2.2 hp
  refine ⟨ad, e, fun j x hj => ?_⟩
  obtain ⟨c, _, hcc, hcell⟩ := hc j x hj
  have hce : c = [Value.string x] := hcc
  rw [hce] at hcell
  have h1 := hcell 0 (.string x) rfl
  have e1 : j * Kd.string.sz + 0 = j := Nat.mul_one j
  rwa [e1] at h1

/-! ### strings.Cut at one octet -/
def cutAt (s : ByteArray) (c : UInt8) : ByteArray × ByteArray × Bool :=
  if 0 ≤ Lib.indexByte s.data.toList c then (s.extract 0 (Lib.indexByte s.data.toList c).toNat, s.extract ((Lib.indexByte s.data.toList c).toNat + 1) s.size, true) else (s, ⟨#[]⟩, false)
theorem idx_lt (l : List UInt8) (c : UInt8) : Lib.indexByte l c < l.length := by
  induction l with
  | nil => simp [Lib.indexByte]
  | cons b l ih =>
    simp only [Lib.indexByte, List.length_cons]
    split
    · omega
    · split <;> omega
set_option maxHeartbeats 1000000 in
theorem slite_Cut (s : ByteArray) (c : UInt8) (w : World) (hs : s.size ≤ 9223372036854775807) :
    Calls Tryd.prog 63 #[.string s, .string ⟨#[c]⟩] w fun e w' => e = .returned (.tuple #[.string (cutAt s c).1, .string (cutAt s c).2.1, .bool (cutAt s c).2.2]) ∧ Below w.heap.size w w' := by
  have hix := idx_lt s.data.toList c
  have hsz : s.data.toList.length = s.size := by simp
  rw [hsz] at hix
  have hone : (⟨#[c]⟩ : ByteArray).size = 1 := rfl
  unfold cutAt
  have HI := Lib.hid (Tryd.stringslite_Index_one s c)
  generalize Lib.indexByte s.data.toList c = n at HI hix ⊢
  generalize (⟨#[c]⟩ : ByteArray) = sep at HI hone ⊢
  by_cases h0 : 0 ≤ n
  · obtain ⟨m, rfl⟩ := Int.eq_ofNat_of_zero_le h0
    rw [if_pos h0]
    have c2 : (m : Int) ≤ ↑s.size := by omega
    have c3 : (0 : Int) ≤ ↑m + ↑sep.size := by omega
    have c4 : (↑m + ↑sep.size : Int) ≤ ↑s.size := by omega
    have c5 := Lib.hid (show ((m : Int) + sep.size).toNat = (m : Int).toNat + 1 by omega)
    have c6 : IntKind.i64.wrap ((m : Int) + sep.size) = (m : Int) + sep.size := by rw [IntKind.wrap_i64]; omega
    have mixed := Tryd.lays220.mixed
    clear hone
    go_enter Tryd.func63, Tryd.ntmps63
    go_wp2_with (go_at_call 60; refine (HI.out _).mono ?_; rintro e w' ⟨rfl, rfl⟩)
    go_region_o
    go_wp2
    go_ret3
    exact ⟨by rw [← c5.out]; rfl, pw_below_drewN (Below.refl _ _) 1⟩
  · rw [if_neg h0]
    go_enter Tryd.func63, Tryd.ntmps63
    go_wp2_with (go_at_call 60; refine (HI.out _).mono ?_; rintro e w' ⟨rfl, rfl⟩)
    go_ret3
    exact ⟨rfl, Below.refl _ _⟩

def strings_Cut.f (a0 a1 : ByteArray) : Option (ByteArray × ByteArray × Bool) :=
  if a0.size ≤ 9223372036854775807 then
    match a1.data.toList with
    | [c] => some (cutAt a0 c)
    | _ => none
  else none
theorem one_of {a : ByteArray} {c : UInt8} (h : a.data.toList = [c]) : a = ⟨#[c]⟩ := by
  apply ByteArray.ext
  apply Array.toList_inj.1
  rw [h]
set_option maxHeartbeats 1000000 in
theorem strings_Cut.calls (a0 a1 : ByteArray) (r1 r2 : ByteArray) (r3 : Bool) (w : World) (h : strings_Cut.f a0 a1 = some (r1, r2, r3)) :
    Calls Tryd.prog 50 #[.string a0, .string a1] w fun e w' => e = .returned (.tuple #[.string r1, .string r2, .bool r3]) ∧ Below w.heap.size w w' := by
  unfold strings_Cut.f at h
  split at h
  case isFalse => cases h
  rename_i hs
  split at h
  case h_2 => cases h
  rename_i c hc
  obtain rfl := one_of hc
  have HC := Lib.hid (fun w => slite_Cut a0 c w hs)
  have hr := Option.some.inj h
  rw [hr] at HC
  clear h hr hc
  go_enter Tryd.func50, Tryd.ntmps50
  go_wp2_with (go_at_call 63; refine (HC.out _).mono ?_; rintro e w' ⟨rfl, hb⟩)
  go_ret3
  exact ⟨rfl, hb⟩

/-! ### strings.SplitAfter at one octet -/
def strings_SplitAfter.f (a0 a1 : ByteArray) : Option (List ByteArray) :=
  if a0.size < 4294967281 ∧ a1.size = 1 then some (Lib.splitB a1 1 (Lib.countB a0 a1) a0) else none
set_option maxHeartbeats 2000000 in
theorem strings_SplitAfter.calls (a0 a1 : ByteArray) (r : List ByteArray) (w : World) (h : strings_SplitAfter.f a0 a1 = some r) :
    Calls Tryd.prog 48 #[.string a0, .string a1] w fun e w' => ∃ v0_ : Value, e = .returned (v0_) ∧ Kd.R Kd.string 9 w' w.heap.size (fun _ => True) v0_ r ∧ Below w.heap.size w w' := by
  unfold strings_SplitAfter.f at h
  split at h
  case isFalse => cases h
  rename_i hs
  have hr := Option.some.inj h
  obtain ⟨c, rfl⟩ := Lib.one_byte a1 hs.2
  have hle := Lib.countB_le ⟨#[c]⟩ (Nat.le_refl 1) a0.size a0 (Nat.le_refl _)
  have hlen := Lib.splitB_all ⟨#[c]⟩ (Nat.le_refl 1) 1 _ a0 rfl
  have g := Any.strings_genSplit_core Tryd.lays221 (by kernel_rfl) a0 ⟨#[c]⟩ 1 (-1) (Lib.countB a0 ⟨#[c]⟩ + 1) w hs.1 (Nat.le_refl 1) (Nat.le_refl 1)
    (fun x cs hx => by
      refine (Tryd.strings_Index_one x c _).mono ?_
      rintro e w' ⟨rfl, rfl⟩
      refine ⟨?_, rfl⟩
      show _ = Ending.returned (.int .i64 (Lib.index x.data.toList [c]))
      rw [Lib.index_one])
    (by
      refine (Tryd.strings_Count_one a0 c w).mono ?_
      rintro e w' ⟨rfl, rfl⟩
      refine ⟨?_, rfl⟩
      show _ = Ending.returned (.int .i64 ((Lib.count a0.data.toList [c] : Nat) : Int))
      rw [Lib.count_one]
      rfl) (by decide) (by decide) (by rw [if_pos (by decide)]; omega)
  rw [Nat.add_sub_cancel, hlen] at g
  have e2 : Lib.cellsOf (Lib.splitB ⟨#[c]⟩ 1 (Lib.countB a0 ⟨#[c]⟩) a0) (Lib.countB a0 ⟨#[c]⟩ + 1) = ((Lib.splitB ⟨#[c]⟩ 1 (Lib.countB a0 ⟨#[c]⟩) a0).map Value.string).toArray := by rw [← hlen]; exact Lib.cellsOf_full _
  rw [e2] at g
  change Calls Tryd.prog 61 _ _ _ at g
  rw [hr, ← hlen, hr] at g
  have hbig : r.length ≤ maxLen := by
    rw [← hr, hlen]
    unfold maxLen
    omega
  have HG := Lib.hid g
  have HB := Lib.hid hbig
  have hone : (⟨#[c]⟩ : ByteArray).size = 1 := rfl
  clear h hr hlen hle g e2 hs hbig
  generalize (⟨#[c]⟩ : ByteArray) = sep at *
  go_enter Tryd.func48, Tryd.ntmps48
  go_wp2_with fail
  refine HG.out.mono ?_
  rintro e w' ⟨rfl, rfl⟩
  go_wp2_with fail
  go_ret
  refine ⟨_, rfl, Kd.S_R (row_strings ⟨by simp, .inr ⟨w.heap.size, r.length, (r.map Value.string).toArray, rfl, Nat.le_refl _, heap_alloc_new _ _, Nat.le_refl _, HB.out, by simp, by rw [List.take_of_length_le (by simp)]⟩⟩), (Below.refl _ _).alloc (Nat.le_refl _) _⟩

/-! ### strings.Join -/
theorem addr_add (b o j : Nat) : (⟨b, o, none⟩ : Addr).add j = ⟨b, o + j, none⟩ := by
  unfold Addr.add
  split
  · rename_i h; rw [h]; rfl
  · rfl
def strings_Join.f (a0 : List ByteArray) (a1 : ByteArray) : Option ByteArray :=
  if a0.length ≤ 140737488355328 ∧ (Lib.join (a0.map (·.data.toList)) a1.data.toList).length ≤ 140737488355328 then some ⟨(Lib.join (a0.map (·.data.toList)) a1.data.toList).toArray⟩ else none
theorem strings_Join.calls (A0 : Option Addr) (c0 : Nat) (a0 : List ByteArray) (a1 : ByteArray) (r : ByteArray) (w : World) (hr0 : Kd.C Kd.string w A0 a0.length a0) (hc0 : a0.length ≤ c0) (h : strings_Join.f a0 a1 = some r) :
    Calls Tryd.prog 31 #[.slice A0 a0.length c0, .string a1] w fun e w' => e = .returned (.string r) ∧ Below w.heap.size w w' := by
  unfold strings_Join.f at h
  split at h
  case isFalse => cases h
  rename_i hb
  obtain rfl := Option.some.inj h
  rcases Nat.eq_zero_or_pos a0.length with h0 | h0
  · obtain rfl : a0 = [] := List.eq_nil_of_length_eq_zero h0
    refine (Tryd.strings_Join_none A0 c0 a1 w).mono ?_
    rintro e w' ⟨rfl, rfl⟩
    exact ⟨rfl, Below.refl _ _⟩
  · obtain ⟨⟨bk, o, pth⟩, rfl, hc⟩ := cells_of_strings hr0 h0
    obtain ⟨x, hx⟩ : ∃ x, a0[0]? = some x := ⟨_, List.getElem?_eq_getElem h0⟩
    have hc0' := hc 0 x hx
    obtain rfl : pth = none := by
      cases pth with
      | none => rfl
      | some q =>
        unfold World.cell? at hc0'
        split at hc0' <;> simp [Addr.add] at hc0'
    refine (Tryd.strings_Join bk o c0 a0 a1 w (fun j x hj => by rw [← addr_add]; exact hc j x hj) (by simpa [Addr.add] using World.block_lt_of_cell? _ _ hc0') hb.1 hc0 hb.2).mono ?_
    rintro e w' ⟨rfl, hb⟩
    exact ⟨rfl, hb⟩

end Go.Proofs.YtbckpnioimhgcaaDoor.Ext

/- Proved: the calls of strings.IndexByte and strings.Cut in the print's form (the shelf's contracts, and two short walks). Condition: Cut at a separator of one octet. -/
import Derived.Test.YteobnfcdlcemlaaDoorShelf
import Derived.Test.YteobnfcdlcemlaaDoorWWords
import Derived.Test.YteobnfcdlcemlaaDoorWApart
import Derived.Lib.SplitLaws
import Derived.Lib.Hide
namespace Go.Proofs.YteobnfcdlcemlaaDoor.Ext
open Go.RowKit Go.Proofs.YteobnfcdlcemlaaDoorW.PrintWords

def strings_IndexByte.f (a0 : ByteArray) (a1 : Int) : Option Int := some (Lib.indexByte a0.data.toList a1.toNat.toUInt8)
theorem strings_IndexByte.calls (a0 : ByteArray) (a1 : Int) (r : Int) (w : World) (h : strings_IndexByte.f a0 a1 = some r) :
    Calls Tryd.prog 27 #[.string a0, .int .u8 a1] w fun e w' => e = .returned (.int .i64 r) ∧ Drawn0 w w' := by
  obtain rfl := Option.some.inj h
  refine (Tryd.strings_IndexByte a0 a1 w).mono ?_
  rintro e w' ⟨he, rfl⟩
  exact ⟨he, Drawn0.refl _⟩

theorem row_strings {W : World} {B : Nat} {v : Value} {l : List ByteArray} (h : W.ownsRow B 9 1 v l.length (l.map Value.string)) : Kd.S Kd.string 9 W B (fun _ => True) v l := by
  refine Kd.S_bare ⟨fun _ _ => trivial, l.map Value.string, h, by rw [List.length_map]; exact (Nat.mul_one _).symm, fun j p hj => ?_⟩
  show ((l.map Value.string).drop (j * 1)).take 1 = [Value.string p]
  obtain ⟨hj1, hj2⟩ := List.getElem?_eq_some_iff.1 hj
  rw [Nat.mul_one, List.drop_eq_getElem_cons (by rw [List.length_map]; exact hj1), List.take_succ_cons, List.take_zero, List.getElem_map, hj2]
theorem cells_of_strings {W : World} {A : Option Addr} {l : List ByteArray} (h : Kd.C Kd.string W A l.length l) (hp : 0 < l.length) : ∃ ad, A = some ad ∧ ∀ (j : Nat) x, l[j]? = some x → W.cell? (ad.add j) = some (.string x) := by
  obtain ⟨ad, e, hc⟩ := h.2.2 hp
  refine ⟨ad, e, fun j x hj => ?_⟩
  obtain ⟨c, _, hcc, hcell⟩ := hc j x hj
  have hce : c = [Value.string x] := hcc
  rw [hce] at hcell
  have h1 := hcell 0 (.string x) rfl
  have e1 : j * Kd.string.sz + 0 = j := Nat.mul_one j
  rwa [e1] at h1

/-! ### strings.Cut at one octet -/
def cutAt (s : ByteArray) (c : UInt8) : ByteArray × ByteArray × Bool :=
  if 0 ≤ Lib.indexByte s.data.toList c then (s.extract 0 (Lib.indexByte s.data.toList c).toNat, s.extract ((Lib.indexByte s.data.toList c).toNat + 1) s.size, true) else (s, ⟨#[]⟩, false)
theorem idx_lt (l : List UInt8) (c : UInt8) : Lib.indexByte l c < l.length := by
  induction l with
  | nil => simp [Lib.indexByte]
  | cons b l ih =>
    simp only [Lib.indexByte, List.length_cons]
    split
    · omega
    · split <;> omega
set_option maxHeartbeats 1000000 in
theorem slite_Cut (s : ByteArray) (c : UInt8) (w : World) (hs : s.size ≤ 9223372036854775807) :
    Calls Tryd.prog 38 #[.string s, .string ⟨#[c]⟩] w fun e w' => e = .returned (.tuple #[.string (cutAt s c).1, .string (cutAt s c).2.1, .bool (cutAt s c).2.2]) ∧ Below w.heap.size w w' := by
  have hix := idx_lt s.data.toList c
  have hsz : s.data.toList.length = s.size := by simp
  rw [hsz] at hix
  have hone : (⟨#[c]⟩ : ByteArray).size = 1 := rfl
  unfold cutAt
  have HI := Lib.hid (Tryd.stringslite_Index_one s c)
  generalize Lib.indexByte s.data.toList c = n at HI hix ⊢
  generalize (⟨#[c]⟩ : ByteArray) = sep at HI hone ⊢
  by_cases h0 : 0 ≤ n
  · obtain ⟨m, rfl⟩ := Int.eq_ofNat_of_zero_le h0
    rw [if_pos h0]
    have c2 : (m : Int) ≤ ↑s.size := by omega
    have c3 : (0 : Int) ≤ ↑m + ↑sep.size := by omega
    have c4 : (↑m + ↑sep.size : Int) ≤ ↑s.size := by omega
    have c5 := Lib.hid (show ((m : Int) + sep.size).toNat = (m : Int).toNat + 1 by omega)
    have c6 : IntKind.i64.wrap ((m : Int) + sep.size) = (m : Int) + sep.size := by rw [IntKind.wrap_i64]; omega
    have mixed := Tryd.lays220.mixed
    clear hone
    go_enter Tryd.func38, Tryd.ntmps38
    go_wp2_with (go_at_call 52; refine (HI.out _).mono ?_; rintro e w' ⟨rfl, rfl⟩)
    go_region_o
    go_wp2
    go_ret3
    exact ⟨by rw [← c5.out]; rfl, pw_below_drewN (Below.refl _ _) 1⟩
  · rw [if_neg h0]
    go_enter Tryd.func38, Tryd.ntmps38
    go_wp2_with (go_at_call 52; refine (HI.out _).mono ?_; rintro e w' ⟨rfl, rfl⟩)
    go_ret3
    exact ⟨rfl, Below.refl _ _⟩

def strings_Cut.f (a0 a1 : ByteArray) : Option (ByteArray × ByteArray × Bool) :=
  if a0.size ≤ 9223372036854775807 then
    match a1.data.toList with
    | [c] => some (cutAt a0 c)
    | _ => none
  else none
theorem one_of {a : ByteArray} {c : UInt8} (h : a.data.toList = [c]) : a = ⟨#[c]⟩ := by
  apply ByteArray.ext
  apply Array.toList_inj.1
  rw [h]
set_option maxHeartbeats 1000000 in
theorem strings_Cut.calls (a0 a1 : ByteArray) (r1 r2 : ByteArray) (r3 : Bool) (w : World) (h : strings_Cut.f a0 a1 = some (r1, r2, r3)) :
    Calls Tryd.prog 29 #[.string a0, .string a1] w fun e w' => e = .returned (.tuple #[.string r1, .string r2, .bool r3]) ∧ Below w.heap.size w w' := by
  unfold strings_Cut.f at h
  split at h
  case isFalse => cases h
  rename_i hs
  split at h
  case h_2 => cases h
  rename_i c hc
  obtain rfl := one_of hc
  have HC := Lib.hid (fun w => slite_Cut a0 c w hs)
  have hr := Option.some.inj h
  rw [hr] at HC
  clear h hr hc
  go_enter Tryd.func29, Tryd.ntmps29
  go_wp2_with (go_at_call 38; refine (HC.out _).mono ?_; rintro e w' ⟨rfl, hb⟩)
  go_ret3
  exact ⟨rfl, hb⟩

end Go.Proofs.YteobnfcdlcemlaaDoor.Ext

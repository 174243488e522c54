/- Proved: what a call of octets.Sorted answers: its texts in order (mergeSort), in a slice of the call's own. Condition: at most 10 to the 9 texts. -/
import Derived.Test.YtdfddiehiiaepaaGreatDoorVtShelf
import Derived.Test.YtdfddiehiiaepaaGreatDoorVtWWords
import Derived.Lib.Hide
import Derived.Sort.OwnSorted
import Derived.Lib.OwnBridge
set_option linter.unusedVariables false
namespace Go.Proofs.YtdfddiehiiaepaaGreatDoor.Ext
open Go.RowKit Go.Proofs.YtdfddiehiiaepaaGreatDoorW.PrintWords Go.Sort
/-- The texts' octets in order. -/
def srtL (l : List ByteArray) : List (List UInt8) := (l.map (·.data.toList)).mergeSort fun x y => decide (x ≤ y)
def srt (l : List ByteArray) : List ByteArray := (srtL l).map fun x => ⟨x.toArray⟩
theorem srtL_length (l : List ByteArray) : (srtL l).length = l.length := by unfold srtL; rw [List.length_mergeSort, List.length_map]
theorem srt_length (l : List ByteArray) : (srt l).length = l.length := by unfold srt; rw [List.length_map, srtL_length]
def octets_Sorted.f (l0 : List ByteArray) : Option (List ByteArray) := if l0.length ≤ 1000000000 then some (srt l0) else none
theorem srt_encs (l : List ByteArray) : encs Value.string (srt l) = (srtL l).map Go.Proofs.encStr := by
  unfold encs srt
  rw [List.map_map]
  rfl
set_option maxHeartbeats 1000000 in
/-- The walk, for whatever argument of which slices.Clone's contract gives a slice that owns the texts. -/
theorem sorted_tail (arg : Value) (l : List ByteArray) (w : World) (hl : l.length ≤ 1000000000)
    (hclone : Calls Tryz.prog 95 #[arg] w fun e w' => ∃ v', e = .returned v' ∧ w'.ownsRow w.heap.size 9 1 v' l.length (l.map Value.string) ∧ v' ≠ .slice none 0 0 ∧ Below w.heap.size w w') :
    Calls Tryz.prog 71 #[arg] w fun e w' => ∃ v0_ : Value, e = .returned (v0_) ∧ Kd.R Kd.string 9 w' w.heap.size (fun _ => True) v0_ (srt l) ∧ Below w.heap.size w w' := by
  go_enter Tryz.func71, Tryz.ntmps71
  go_wp2_with fail
  refine hclone.mono ?_
  rintro e w1 ⟨v1, rfl, hown, hnn, hbel⟩
  have HOWN := Lib.hid hown
  rw [← Lib.map_encStr] at hown
  obtain ⟨g, cap, rfl, hbg, hgl, hncap, hcm, hlen, hH⟩ := Lib.holds_of_ownsRow hown hnn
  have HS := Lib.hid (Tryz.slices_Sort_string g 0 cap (l.map (·.data.toList)) w1 hH hgl (by rw [List.length_map]; omega))
  rw [List.length_map] at HS
  have HO := Lib.hid hown
  have HB := Lib.hid hbel
  clear hown hbel hH hnn hclone
  go_wp2_with fail
  refine HS.out.mono ?_
  rintro e w2 ⟨rfl, nn, os, rfl⟩
  have hfin : ∃ v0_ : Value, (Ending.returned (.slice (some ⟨g, 0, none⟩) l.length cap) : Ending) = .returned v0_ ∧ Kd.R Kd.string 9 (grow (putRow Go.Proofs.encStr (Sort.ahead w1 nn) g 0 (srtL l).toArray) os) w.heap.size (fun _ => True) v0_ (srt l) ∧ Below w.heap.size w (grow (putRow Go.Proofs.encStr (Sort.ahead w1 nn) g 0 (srtL l).toArray) os) := by
    refine ⟨_, rfl, ?_, ?_⟩
    · rcases HO.out.2 with ⟨h0, _⟩ | ⟨g', cap', cur, hv, hbase, hb, h1, h2, h3, h4⟩
      · cases h0
      · cases hv
        have hs := ownsRow_sorted (n := nn) (os := os) (ss := l.map (·.data.toList)) (ts := srtL l) (by rw [srtL_length, List.length_map]) hbase hb (by rw [List.length_map]; exact h1) h2 h3
        rw [List.length_map, ← srt_encs] at hs
        have hs2 : (grow (putRow Go.Proofs.encStr (Sort.ahead w1 nn) g 0 (srtL l).toArray) os).ownsRow w.heap.size 9 1 (.slice (some ⟨g, 0, none⟩) l.length cap) (srt l).length (encs Value.string (srt l)) := by
          rw [srt_length]
          exact hs
        exact Kd.R_of_own hs2 (fun _ _ => trivial)
    · exact HB.out.grown (grownBy_sorted _) HB.out.size (fun j hj => by cases hj; exact hbg)
  have HF := Lib.hid hfin
  clear hfin HS HO HB HOWN
  go_wp2_with fail
  go_ret
  exact HF.out
theorem octets_Sorted.calls (A0 : Option Addr) (c0 : Nat) (l0 : List ByteArray) (r : List ByteArray) (w : World) (hr0 : Kd.C Kd.string w A0 l0.length l0) (hc0 : l0.length ≤ c0) (h : octets_Sorted.f l0 = some r) :
    Calls Tryz.prog 71 #[.slice A0 l0.length c0] w fun e w' => ∃ v0_ : Value, e = .returned (v0_) ∧ Kd.R Kd.string 9 w' w.heap.size (fun _ => True) v0_ r ∧ Below w.heap.size w w' := by
  unfold octets_Sorted.f at h
  split at h
  case isFalse => cases h
  next hl =>
  injection h with h
  subst h
  cases A0 with
  | none =>
    have hz : l0 = [] := by
      refine List.eq_nil_of_length_eq_zero (Nat.eq_zero_of_not_pos fun hp => ?_)
      obtain ⟨ad, he, _⟩ := hr0.2.2 hp
      cases he
    subst hz
    have HC := Lib.hid (Tryz.slices_Clone_string_nil 0 c0 w)
    have HS := Lib.hid (Tryz.slices_Sort_string_none none 0 w)
    have HF := Lib.hid (show ∃ v0_ : Value, (Ending.returned (.slice none 0 0) : Ending) = .returned (v0_) ∧ Kd.R Kd.string 9 w w.heap.size (fun _ => True) v0_ (srt []) ∧ Below w.heap.size w w from ⟨_, rfl, by rw [show srt [] = [] by unfold srt srtL; simp]; exact Kd.R_nil _ _ _ _ _, Below.refl _ _⟩)
    show Calls Tryz.prog 71 #[.slice none 0 c0] w _
    go_enter Tryz.func71, Tryz.ntmps71
    go_wp2_with fail
    refine HC.out.mono ?_
    rintro e w1 ⟨rfl, rfl⟩
    go_wp2_with fail
    refine HS.out.mono ?_
    rintro e w2 ⟨rfl, rfl⟩
    go_wp2_with fail
    go_ret
    exact HF.out
  | some ad =>
    refine sorted_tail _ l0 w hl ?_
    by_cases hz : l0.length = 0
    · have hz2 : l0 = [] := List.eq_nil_of_length_eq_zero hz
      subst hz2
      exact Tryz.slices_Clone_string_zero ad c0 w
    · have hro := Kd.reads_of_C (enc := Value.string) (d := ByteArray.empty) (h1 := fun _ => rfl) hr0
      obtain ⟨ad', he, hc⟩ := hro.2.2 (by omega)
      injection he with he
      subst he
      have h0 := hc 0 (by omega)
      have hsp : ad.spot = none := World.cell?_spot (show w.cell? ad = _ from h0)
      obtain ⟨b, off, sp⟩ := ad
      cases hsp
      have hcl := Tryz.slices_Clone_string b off l0.length c0 l0 w (Nat.le_refl _) (by omega) (fun j hj => by
        have := hc j hj
        by_cases hj0 : j = 0
        · subst hj0; exact this
        · simpa [Addr.add, hj0] using this)
      rw [List.take_length] at hcl
      exact hcl
end Go.Proofs.YtdfddiehiiaepaaGreatDoor.Ext

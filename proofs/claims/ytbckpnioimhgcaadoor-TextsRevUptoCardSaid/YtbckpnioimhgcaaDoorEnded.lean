/- Proved: texts.ended's call answers the texts, each with a newline behind it. Condition: they have at most 10 to the 9 octets, the newlines with them. -/
import Derived.Test.YtbckpnioimhgcaaDoorBuilderS
import Derived.Test.YtbckpnioimhgcaaDoorEsc
set_option linter.unusedVariables false
namespace Go.Proofs.YtbckpnioimhgcaaDoor.Ext
open Go.RowKit Go.Proofs.YtbckpnioimhgcaaDoorW.PrintWords

def endL (l : List ByteArray) : List UInt8 := l.flatMap fun x => x.data.toList ++ [10]
theorem endL_step (l : List ByteArray) (k : Nat) (h : k < l.length) : endL (l.take (k + 1)) = endL (l.take k) ++ ((l[k]).data.toList ++ [10]) := by
  unfold endL
  rw [List.take_succ_eq_append_getElem h, List.flatMap_append]
  simp
theorem endL_le (l : List ByteArray) (k : Nat) : (endL (l.take k)).length ≤ (endL l).length := by
  have h := congrArg endL (List.take_append_drop k l)
  have h2 : endL (l.take k ++ l.drop k) = endL (l.take k) ++ endL (l.drop k) := by unfold endL; rw [List.flatMap_append]
  rw [← h, h2, List.length_append]
  omega
def texts_ended.f (l : List ByteArray) : Option ByteArray := if (endL l).length ≤ 1000000000 ∧ l.length ≤ 1000000000 then some ⟨(endL l).toArray⟩ else none
theorem cells_snoc (l : List UInt8) (c : UInt8) : Lib.byteCells l ++ [.int .u8 c.toNat] = Lib.byteCells (l ++ [c]) := by
  unfold Lib.byteCells
  rw [List.map_append]
  rfl

set_option maxHeartbeats 4000000 in
theorem texts_ended.calls (A0 : Option Addr) (c0 : Nat) (l0 : List ByteArray) (r : ByteArray) (w : World) (hr0 : Kd.C Kd.string w A0 l0.length l0) (hc0 : l0.length ≤ c0) (h : texts_ended.f l0 = some r) :
    Calls Tryd.prog 40 #[.slice A0 l0.length c0] w fun e w' => e = .returned (.string r) ∧ Below w.heap.size w w' := by
  unfold texts_ended.f at h
  split at h
  case isFalse => cases h
  rename_i hc
  obtain ⟨hl, hw⟩ := hc
  obtain rfl := Option.some.inj h
  have HR := Lib.hid hr0
  have HL := Lib.hid hl
  have HB0 := Lib.hid (Lib.IsBuilderF.of (Lib.fresh_isBuilder 58 5 w))
  clear hr0 hl h
  go_enter Tryd.func40, Tryd.ntmps40
  go_wp2_with fail
  go_loopw [8] (fun i wr => ∃ k, k ≤ l0.length ∧ i = .int .i64 (k : Nat) ∧ Lib.IsBuilderF 58 5 w.heap.size w.heap.size (Lib.byteCells (endL (l0.take k))) wr ∧ Below w.heap.size w wr ∧ w.heap.size ≤ wr.heap.size) (fun i _ => l0.length - (intOf i).toNat)
  case atStart => exact ⟨0, Nat.zero_le _, rfl, HB0.out, (Below.refl _ _).alloc (Nat.le_refl _) _, by simp⟩
  case round =>
    obtain ⟨k, hk, rfl, hcp, hfr, hsz⟩ := hrel
    by_cases hlt : k < l0.length
    · obtain ⟨ad, rfl, hcell⟩ := cells_of_strings HR.out (by omega)
      have hx := hcell k _ (List.getElem?_eq_getElem hlt)
      replace hx := pw_cell_below hfr hx
      have hst := endL_step l0 k hlt
      have hle := endL_le l0 (k + 1)
      rw [hst] at hle
      generalize l0[k] = x at *
      generalize endL (l0.take k) = L at *
      have HCP := Lib.hid hcp
      have HFR := Lib.hid hfr
      have HST := Lib.hid hst
      have HLE := Lib.hid (Nat.le_trans hle HL.out)
      have HSZ := Lib.hid hsz
      clear hcp hfr hst hle hcell
      go_wp2_with fail
      refine (WriteString w.heap.size w.heap.size _ x _ HCP.out (by
        rw [Lib.byteCells_length]
        have := HLE.out
        have h4 : x.data.toList.length = x.size := by simp
        rw [List.length_append, List.length_append, h4] at this
        omega) hsz).mono ?_
      rintro e w2 ⟨rfl, hc4, hf4, _⟩
      rw [cells_app] at hc4
      have HC4 := Lib.hid hc4
      have HF4 := Lib.hid hf4
      have HS4 := Lib.hid (Nat.le_trans hsz hf4.size)
      clear hc4 hf4
      go_wp2_with fail
      refine (WriteByte w.heap.size w.heap.size _ 10 _ (.inr HC4.out) (by
        rw [Lib.byteCells_length]
        have := HLE.out
        rw [List.length_append, List.length_append, List.length_singleton] at this
        rw [List.length_append]
        omega) HS4.out).mono ?_
      rintro e w3 ⟨rfl, hc5, hf5, _⟩
      have e5 := cells_snoc (L ++ x.data.toList) 10
      have HC5 := Lib.hid hc5
      have HF5 := Lib.hid hf5
      have HE5 := Lib.hid e5
      clear hc5 hf5 e5
      go_wp2_with fail
      go_roundw
      case rel => exact ⟨k + 1, by omega, by go_num, by rw [HST.out, ← List.append_assoc, ← HE5.out]; exact .inr HC5.out, (HFR.out.trans HF4.out).trans HF5.out, Nat.le_trans HS4.out HF5.out.size⟩
      case measure => simp [intOf]; omega
    · have hk' : k = l0.length := by omega
      subst hk'
      rw [List.take_length] at hcp
      have HCP := Lib.hid hcp
      have HFR := Lib.hid hfr
      clear hcp hfr
      go_wp2_with fail
      refine (Tryd.Builder_String_any_f w.heap.size w.heap.size (endL l0) _ HCP.out hsz).mono ?_
      rintro e w' ⟨rfl, _, hf4⟩
      have HF4 := Lib.hid hf4
      clear hf4
      go_wp2_with fail
      go_ret
      exact ⟨rfl, HFR.out.trans HF4.out⟩

end Go.Proofs.YtbckpnioimhgcaaDoor.Ext

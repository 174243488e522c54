/- Proved: glob.Text's call answers the text of the octets. Condition: fewer than 10 to the 9 octets, each from 0 to 255. -/
import Derived.Test.YtfmfncknpifjcaaDoorBuilder
import Derived.Test.YtfmfncknpifjcaaDoorFields
set_option linter.unusedVariables false
namespace Go.Proofs.YtfmfncknpifjcaaDoor.Ext
open Go.RowKit Go.Proofs.YtfmfncknpifjcaaDoor.P Go.Proofs.YtfmfncknpifjcaaDoorW.PrintWords

def octets (l : List S39) : List UInt8 := l.map fun c => UInt8.ofNat c.f0.toNat
def isOctet (c : S39) : Bool := decide (0 ≤ c.f0) && decide (c.f0 ≤ 255)
theorem octets_step (l : List S39) (k : Nat) (h : k < l.length) (hw : l.all isOctet = true) : Lib.byteCells (octets (l.take (k + 1))) = Lib.byteCells (octets (l.take k)) ++ [.int .u8 (rd_T39 l (k : Int)).f0] := by
  have e : rd_T39 l (k : Int) = l[k] := by
    unfold rd_T39
    rw [Int.toNat_natCast, List.getD_eq_getElem?_getD, List.getElem?_eq_getElem h]
    rfl
  have hk : isOctet l[k] = true := List.all_eq_true.1 hw _ (List.getElem_mem h)
  simp [isOctet] at hk
  rw [List.take_succ_eq_append_getElem h, e]
  unfold octets Lib.byteCells
  rw [List.map_append, List.map_append]
  congr 1
  simp only [List.map_cons, List.map_nil, UInt8.toNat_ofNat', List.cons.injEq, Value.int.injEq, and_true, true_and]
  omega
def glob_Text.f (l : List S39) : Option ByteArray := if l.length ≤ 1000000000 ∧ l.all isOctet = true then some ⟨(octets l).toArray⟩ else none

theorem alloc_builder {B b : Nat} {bs : List Value} {w : World} (h : Lib.IsBuilderF 59 5 B b bs w) (o : Obj) : Lib.IsBuilderF 59 5 B b bs (w.alloc o) := h.elim (fun x => .inl (x.alloc o)) (fun x => .inr (x.alloc o))

set_option maxHeartbeats 4000000 in
theorem glob_Text.calls (A0 : Option Addr) (c0 : Nat) (l0 : List S39) (r : ByteArray) (w : World) (hr0 : Kd.C k39 w A0 l0.length l0) (hc0 : l0.length ≤ c0) (h : glob_Text.f l0 = some r) :
    Calls Tryd.prog 28 #[.slice A0 l0.length c0] w fun e w' => e = .returned (.string r) ∧ Below w.heap.size w w' := by
  unfold glob_Text.f at h
  split at h
  case isFalse => cases h
  rename_i hc
  obtain ⟨hl, hw⟩ := hc
  obtain rfl := Option.some.inj h
  have HR := Lib.hid hr0
  have HW := Lib.hid hw
  have HB0 := Lib.hid (Lib.IsBuilderF.of (Lib.fresh_isBuilder 59 5 w))
  have ew := enters_of Tryd.func44 (by kernel_rfl) rfl
  have es := enters_of Tryd.func29 (by kernel_rfl) rfl
  clear hr0 hw h
  go_enter Tryd.func28, Tryd.ntmps28
  go_wp2_with fail
  go_loopw [8] (fun i wr => ∃ k, k ≤ l0.length ∧ i = .int .i64 (k : Nat) ∧ Lib.IsBuilderF 59 5 w.heap.size w.heap.size (Lib.byteCells (octets (l0.take k))) wr ∧ Below w.heap.size w wr ∧ w.heap.size ≤ wr.heap.size) (fun i _ => l0.length - (intOf i).toNat)
  case atStart => exact ⟨0, Nat.zero_le _, rfl, HB0.out, (Below.refl _ _).alloc (Nat.le_refl _) _, by simp⟩
  case round =>
    obtain ⟨k, hk, rfl, hcp, hfr, hsz⟩ := hrel
    by_cases hlt : k < l0.length
    · obtain ⟨ad, rfl, d0, d1⟩ := at_T39 HR.out (k : Int) (by omega) (by omega)
      rw [Int.toNat_natCast] at d0 d1
      replace d0 := pw_cell_below hfr d0
      replace d1 := pw_cell_below hfr d1
      have HS := Lib.hid (octets_step l0 k hlt HW.out)
      have hlen : (Lib.byteCells (octets (l0.take k))).length + 1 ≤ 140737488355328 := by
        rw [Lib.byteCells_length]
        unfold octets
        rw [List.length_map, List.length_take]
        omega
      have HCP := Lib.hid hcp
      have HFR := Lib.hid hfr
      have HL := Lib.hid hlen
      generalize hp : rd_T39 l0 (k : Int) = p at *
      have HP := Lib.hid hp
      clear hp hcp hfr hlen
      obtain ⟨p0, p1⟩ := p
      go_wp2_with fail
      refine (WriteByte w.heap.size w.heap.size _ p0 _ (alloc_builder HCP.out _) HL.out (by simp; omega)).mono ?_
      rintro e w' ⟨rfl, hc4, hf4, _⟩
      have HC4 := Lib.hid hc4
      have HF4 := Lib.hid hf4
      clear hc4 hf4
      go_wp2_with fail
      go_roundw
      case rel => exact ⟨k + 1, by omega, by go_num, by rw [HS.out]; exact .inr HC4.out, (HFR.out.alloc hsz _).trans HF4.out, by have := HF4.out.size; simp at this; omega⟩
      case measure => simp [intOf]; omega
    · have hk' : k = l0.length := by omega
      subst hk'
      rw [List.take_length] at hcp
      have HCP := Lib.hid hcp
      have HFR := Lib.hid hfr
      clear hcp hfr
      go_wp2_with fail
      refine (Tryd.Builder_String_any_f w.heap.size w.heap.size (octets l0) _ HCP.out hsz).mono ?_
      rintro e w' ⟨rfl, _, hf4⟩
      have HF4 := Lib.hid hf4
      clear hf4
      go_wp2_with fail
      go_ret
      exact ⟨rfl, HFR.out.trans HF4.out⟩

end Go.Proofs.YtfmfncknpifjcaaDoor.Ext

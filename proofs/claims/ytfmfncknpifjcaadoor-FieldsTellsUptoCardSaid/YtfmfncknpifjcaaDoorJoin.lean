/- Proved: fields.Join's call answers all pieces' octets, one behind the other. Condition: at most 10 to the 9 octets in all, at most 10 to the 9 pieces, each octet from 0 to 255. -/
import Derived.Test.YtfmfncknpifjcaaDoorText
import Derived.Test.YtfmfncknpifjcaaDoorBuilderS
import Derived.Shelf.Strings.MapGrows
set_option linter.unusedVariables false
namespace Go.Proofs.YtfmfncknpifjcaaDoor.Ext
open Go.RowKit Go.Proofs.YtfmfncknpifjcaaDoor.P Go.Proofs.YtfmfncknpifjcaaDoorW.PrintWords

def allOct (l : List S42) : List UInt8 := l.flatMap fun p => octets p.f0
theorem allOct_step (l : List S42) (k : Nat) (h : k < l.length) : allOct (l.take (k + 1)) = allOct (l.take k) ++ octets (l[k]).f0 := by
  unfold allOct
  rw [List.take_succ_eq_append_getElem h, List.flatMap_append]
  simp
theorem allOct_le (l : List S42) (k : Nat) : (allOct (l.take k)).length ≤ (allOct l).length := by
  have h := congrArg allOct (List.take_append_drop k l)
  have h2 : allOct (l.take k ++ l.drop k) = allOct (l.take k) ++ allOct (l.drop k) := by unfold allOct; rw [List.flatMap_append]
  rw [← h, h2, List.length_append]
  omega
def fields_Join.f (l : List S42) : Option ByteArray :=
  if (allOct l).length ≤ 1000000000 ∧ l.length ≤ 1000000000 ∧ l.all (fun p => p.f0.all isOctet) = true then some ⟨(allOct l).toArray⟩ else none

theorem cells_app2 (l t : List UInt8) : Lib.byteCells l ++ Lib.strCells ⟨t.toArray⟩ = Lib.byteCells (l ++ t) := by
  unfold Lib.byteCells Lib.strCells
  rw [List.map_append]
theorem text_some (l : List S39) (h1 : l.length ≤ 1000000000) (h2 : l.all isOctet = true) : glob_Text.f l = some ⟨(octets l).toArray⟩ := by
  unfold glob_Text.f
  rw [if_pos ⟨h1, h2⟩]

set_option maxHeartbeats 4000000 in
theorem fields_Join.calls (A0 : Option Addr) (c0 : Nat) (l0 : List S42) (r : ByteArray) (w : World) (hr0 : Kd.C k42 w A0 l0.length l0) (hc0 : l0.length ≤ c0) (h : fields_Join.f l0 = some r) :
    Calls Tryd.prog 12 #[.slice A0 l0.length c0] w fun e w' => e = .returned (.string r) ∧ Below w.heap.size w w' := by
  unfold fields_Join.f at h
  split at h
  case isFalse => cases h
  rename_i hc
  obtain ⟨hl, hw, ho⟩ := hc
  obtain rfl := Option.some.inj h
  have HR := Lib.hid hr0
  have HL := Lib.hid hl
  have HO := Lib.hid ho
  have HB0 := Lib.hid (Lib.IsBuilderF.of (Lib.fresh_isBuilder 59 5 w))
  have hup := Tryd.underlying42
  clear hr0 hl h ho
  go_enter Tryd.func12, Tryd.ntmps12
  go_wp2_with fail
  go_loopw [8] (fun i wr => ∃ k, k ≤ l0.length ∧ i = .int .i64 (k : Nat) ∧ Lib.IsBuilderF 59 5 w.heap.size w.heap.size (Lib.byteCells (allOct (l0.take k))) wr ∧ Below w.heap.size w wr ∧ w.heap.size ≤ wr.heap.size) (fun i _ => l0.length - (intOf i).toNat)
  case atStart => exact ⟨0, Nat.zero_le _, rfl, HB0.out, (Below.refl _ _).alloc (Nat.le_refl _) _, by simp⟩
  case round =>
    obtain ⟨k, hk, rfl, hcp, hfr, hsz⟩ := hrel
    by_cases hlt : k < l0.length
    · obtain ⟨ad, A1, c1, rfl, d0, d1, d2, d3, q0, g0⟩ := at_T42 HR.out (k : Int) (by omega) (by omega)
      rw [Int.toNat_natCast] at d0 d1 d2 d3
      replace d0 := pw_cell_below hfr d0
      replace d1 := pw_cell_below hfr d1
      replace d2 := pw_cell_below hfr d2
      replace d3 := pw_cell_below hfr d3
      have e : rd_T42 l0 (k : Int) = l0[k] := by
        unfold rd_T42
        rw [Int.toNat_natCast, List.getD_eq_getElem?_getD, List.getElem?_eq_getElem hlt]
        rfl
      have hst := allOct_step l0 k hlt
      have hle := allOct_le l0 (k + 1)
      have hoc := List.all_eq_true.1 HO.out _ (List.getElem_mem hlt)
      rw [hst] at hle
      rw [e] at d0 d1 d2 d3 q0 g0
      generalize l0[k] = p at *
      have hg1 := Kd.C_below g0 hfr
      have HG := Lib.hid hg1
      have hpl : (octets p.f0).length = p.f0.length := by unfold octets; rw [List.length_map]
      have hple : p.f0.length ≤ 1000000000 := by
        have := HL.out
        rw [List.length_append] at hle
        omega
      have HTX := Lib.hid (text_some p.f0 hple hoc)
      generalize allOct (l0.take k) = L at *
      have HCP := Lib.hid hcp
      have HFR := Lib.hid hfr
      have HST := Lib.hid hst
      have HLE := Lib.hid (Nat.le_trans hle HL.out)
      have HQ := Lib.hid q0
      clear hcp hfr hst hle hoc g0 hg1 hpl hple e q0
      obtain ⟨pl, p1, p2, p3⟩ := p
      go_wp2_with fail
      refine (glob_Text.calls A1 c1 pl _ _ (Kd.C_alloc HG.out _) HQ.out HTX.out).mono ?_
      rintro e w2 ⟨rfl, hb2⟩
      have HBD := Lib.hid ((HCP.out.alloc _).below hb2)
      have HB2 := Lib.hid ((HFR.out.alloc hsz _).trans (hb2.mono (by simp; omega)))
      have HS2 := Lib.hid (Nat.le_trans (show w.heap.size ≤ _ by simp; omega) hb2.size)
      clear hb2
      go_wp2_with fail
      refine (WriteString w.heap.size w.heap.size _ ⟨(octets pl).toArray⟩ _ HBD.out (by
        rw [Lib.byteCells_length]
        have := HLE.out
        have h4 : (⟨(octets pl).toArray⟩ : ByteArray).size = (octets pl).length := List.size_toArray
        rw [List.length_append] at this
        omega) HS2.out).mono ?_
      rintro e w3 ⟨rfl, hc4, hf4, _⟩
      rw [cells_app2] at hc4
      have HC4 := Lib.hid hc4
      have HF4 := Lib.hid (HB2.out.trans hf4)
      have HS4 := Lib.hid (Nat.le_trans HS2.out hf4.size)
      clear hc4 hf4
      go_wp2_with fail
      go_roundw
      case rel => exact ⟨k + 1, by omega, by go_num, by rw [HST.out]; exact .inr HC4.out, HF4.out, HS4.out⟩
      case measure => simp [intOf]; omega
    · have hk' : k = l0.length := by omega
      subst hk'
      rw [List.take_length] at hcp
      have HCP := Lib.hid hcp
      have HFR := Lib.hid hfr
      clear hcp hfr
      go_wp2_with fail
      refine (Tryd.Builder_String_any_f w.heap.size w.heap.size (allOct l0) _ HCP.out hsz).mono ?_
      rintro e w' ⟨rfl, _, hf4⟩
      have HF4 := Lib.hid hf4
      clear hf4
      go_wp2_with fail
      go_ret
      exact ⟨rfl, HFR.out.trans HF4.out⟩

end Go.Proofs.YtfmfncknpifjcaaDoor.Ext

/- Proved: texts.turned's call answers the octets that the function handed in keeps, as it turns them, whatever function; and texts.Translate's and Delete's. Conditions: the text is of at most 10 to the 9 octets. -/
import Derived.Test.YtbckpnioimhgcaaDoorSet
import Derived.Lib.Hide
import Derived.Shelf.GgClosure.Gives
set_option linter.unusedVariables false
namespace Go.Proofs.YtbckpnioimhgcaaDoor.Ext
open Go.RowKit Go.Proofs.YtbckpnioimhgcaaDoorW.PrintWords

theorem cell_conv (w : World) (e : TypeId) (s : ByteArray) (cap : Nat) (fr : Nat × Nat) (j : Nat) (hj : j < s.size) :
    ((w.alloc (.cells (bytesRow s cap) e fr)).drew).cell? ⟨w.heap.size, j, none⟩ = some (.int .u8 (s.data.toList.getD j 0).toNat) := by
  have h1 : ((w.alloc (.cells (bytesRow s cap) e fr)).drew).heap[w.heap.size]? = some (.cells (bytesRow s cap) e fr) := heap_alloc_new w _
  have h2 := bytesRow_at s cap j hj
  have h3 : s.data.toList.getD j 0 = s.data[j] := by
    rw [List.getD_eq_getElem?_getD, List.getElem?_eq_getElem (by simpa using hj)]
    simp
  rw [h3]
  unfold World.cell?
  rw [h1]
  exact h2

def turnL (f : Nat → Int × Bool) (l : List UInt8) : List Int := l.filterMap fun c => if (f c.toNat).2 then some (f c.toNat).1 else none
theorem turn_step (f : Nat → Int × Bool) (l : List UInt8) (k : Nat) (hk : k < l.length) :
    turnL f (l.take (k + 1)) = if (f (l.getD k 0).toNat).2 then turnL f (l.take k) ++ [(f (l.getD k 0).toNat).1] else turnL f (l.take k) := by
  have e : l.getD k 0 = l[k] := by rw [List.getD_eq_getElem?_getD, List.getElem?_eq_getElem hk]; rfl
  rw [e, List.take_succ_eq_append_getElem hk]
  unfold turnL
  rw [List.filterMap_append]
  cases h : (f l[k].toNat).2 <;> simp [h]
theorem turn_le (f : Nat → Int × Bool) (l : List UInt8) : (turnL f l).length ≤ l.length := List.length_filterMap_le _ _

set_option maxHeartbeats 4000000 in
theorem turned_calls (gN : Nat) (lb : Array Value) (f : Nat → Int × Bool) (s : ByteArray) (w : World) (eg : ∀ args w, (callFunc gN args).run Tryd.prog w = .ok (.enter gN args) w)
    (hf : ∀ (W : World) (c : UInt8), Below w.heap.size w W → Calls Tryd.prog gN (#[.int .u8 c.toNat] ++ lb) W fun e w' => e = .returned (.tuple #[.int .u8 (f c.toNat).1, .bool (f c.toNat).2]) ∧ Below W.heap.size W w')
    (hsz : s.size ≤ 1000000000) :
    Calls Tryd.prog 19 #[.string s, .func (.func gN) #[] lb] w fun e w' => e = .returned (.string (strOfNums (turnL f s.data.toList))) ∧ Below w.heap.size w w' := by
  have hconv := run_bytes_of_string (P := Tryd.prog) w 9 40 5 s Tryd.underlying9 Tryd.underlying40 Tryd.underlying5
  generalize hcap : grownCap w s.size 0 5 = cap at hconv
  clear hcap
  have hcell := cell_conv w 5 s cap ((bytesRow s cap).size, (bytesRow s cap).size + 1)
  generalize (bytesRow s cap) = C at hconv hcell
  have HC := Lib.hid hcell
  have HF := Lib.hid hf
  have HSZ := Lib.hid hsz
  clear hcell hf
  have hln : s.data.toList.length = s.size := by simp
  have HL := Lib.hid hln
  clear hln
  go_enter Tryd.func19, Tryd.ntmps19
  go_wp2_with fail
  have hW1 : Below w.heap.size w ((w.alloc (.cells C 5 (C.size, C.size + 1))).drew) := ((Below.refl _ w).alloc (Nat.le_refl _) _).drew
  have hW2 : ∀ (j : Nat), j < s.size → ((w.alloc (.cells C 5 (C.size, C.size + 1))).drew).cell? ⟨w.heap.size, j, none⟩ = some (.int .u8 (s.data.toList.getD j 0).toNat) := HC.out
  have hW3 : w.heap.size < ((w.alloc (.cells C 5 (C.size, C.size + 1))).drew).heap.size := by simp
  generalize ((w.alloc (.cells C 5 (C.size, C.size + 1))).drew) = W0 at *
  have HW1 := Lib.hid hW1
  have HW2 := Lib.hid hW2
  have HW3 := Lib.hid hW3
  clear hW1 hW2 hW3 HC hconv
  go_loopw [5, 13] (fun o i wr => ∃ (k : Nat), k ≤ s.size ∧ i = .int .i64 k ∧ Kd.R (Kd.int .u8) 5 wr W0.heap.size (fun _ => True) o (turnL f (s.data.toList.take k)) ∧ Below W0.heap.size W0 wr) (fun _ i _ => s.size - (intOf i).toNat)
  case atStart => exact ⟨0, Nat.zero_le _, rfl, Kd.R_nil _ _ _ _ _, Below.refl _ _⟩
  case round =>
    obtain ⟨k, hk, rfl, hr, hb⟩ := hrel
    have HBB := Lib.hid hb
    have HRR := Lib.hid hr
    by_cases hlt : k < s.size
    · have hst := turn_step f s.data.toList k (by rw [HL.out]; exact hlt)
      have hcell : wr.cell? ⟨w.heap.size, k, none⟩ = some (.int .u8 (s.data.toList.getD k 0).toNat) := by
        rw [hb.cell (p := ⟨w.heap.size, k, none⟩) HW3.out]
        exact HW2.out k hlt
      have hlen : (turnL f (s.data.toList.take k)).length ≤ 1000000000 := by
        have h1 := turn_le f (s.data.toList.take k)
        have h2 := HSZ.out
        rw [List.length_take] at h1
        omega
      generalize (s.data.toList.getD k 0) = c at *
      generalize turnL f (s.data.toList.take k) = L at *
      have HST := Lib.hid hst
      have HLEN := Lib.hid hlen
      clear hst hlen hb hr
      go_wp2_with fail
      have hww : Below w.heap.size w wr := HW1.out.trans (HBB.out.mono (Nat.le_of_lt HW3.out))
      refine (HF.out wr c hww).mono ?_
      rintro e w2 ⟨rfl, hb2⟩
      have hs2 := Nat.le_trans HBB.out.size hb2.size
      have HB2 := Lib.hid (HBB.out.trans (hb2.mono HBB.out.size))
      have HR2 := Lib.hid (Kd.R_below HRR.out hb2)
      have HS2 := Lib.hid hs2
      clear hww hb2 hs2 HRR HBB
      cases hok : (f c.toNat).2
      · rw [hok] at HST
        generalize (f c.toNat).1 = d at *
        clear hok
        go_wp2_with fail
        go_roundw
        case rel => exact ⟨k + 1, by omega, by go_num, by rw [HST.out]; exact HR2.out, HB2.out⟩
        case measure => simp [intOf]; omega
      · rw [hok] at HST
        generalize (f c.toNat).1 = d at *
        clear hok
        go_wp2_with (at_builtin; refine Kd.R_append (Kd.int .u8) (w0 := W0) W0.heap.size rfl (.tmp 24) (.tmp 26) 40 5 (.int .u8 0) 1 rfl Tryd.underlying40 info_u8 rfl (by decide) (by omega) u5 L d [.int .u8 d] (fun _ => True) (fun _ => False) rfl rfl ?aP (fun _ hk => hk.elim) ?aF ?aO ?aB ?aS ?aL ?_)
        case aP => rfl
        case aF => exact fun _ _ => trivial
        case aO => exact HR2.out
        case aB => exact HB2.out
        case aS => exact HS2.out
        case aL => have := HLEN.out; omega
        intro v3 w3 hr3 hb3 _ _
        have HR3 := Lib.hid hr3
        have HB3 := Lib.hid hb3
        clear hr3 hb3
        go_wp2_with fail
        go_roundw
        case rel => exact ⟨k + 1, by omega, by go_num, by rw [HST.out]; exact HR3.out, HB3.out⟩
        case measure => simp [intOf]; omega
    · obtain rfl : k = s.size := by omega
      rw [List.take_of_length_le (by rw [HL.out]; omega)] at hr
      have hcv := own_string (P := Tryd.prog) Tryd.underlying40 Tryd.underlying5 Tryd.underlying9 (Kd.own_of_R hr)
      have HW := Lib.hid (HW1.out.trans (hb.mono (Nat.le_of_lt HW3.out)))
      clear hr hb HRR HBB
      go_wp2_with fail
      go_ret
      exact ⟨rfl, HW.out⟩

end Go.Proofs.YtbckpnioimhgcaaDoor.Ext

/- Proved: slices.Reverse's call at octets turns the row round; texts.Rev's call answers the text's lines, each turned round, each with a newline. Condition: the text is of at most 10 to the 8 octets. -/
import Derived.Test.YtbckpnioimhgcaaDoorEnded
import Derived.Test.YtbckpnioimhgcaaDoorQ14
import Derived.Test.YtbckpnioimhgcaaDoorTurn
import Derived.Sort.WalkB12
import Derived.Lib.SlicesMore
import Derived.Lib.OwnBridge
set_option linter.unusedVariables false
namespace Go.Proofs.YtbckpnioimhgcaaDoor.Ext
open Go.RowKit Go.Proofs.YtbckpnioimhgcaaDoorW.PrintWords

set_option maxHeartbeats 4000000 in
set_option maxRecDepth 100000 in
theorem rev_bytes (blk cap : Nat) (d : Array Int) (w : World) (hH : Sort.Holds (Value.int .u8) w blk 0 d) (hsz : d.size ≤ 1000000000) :
    Calls Tryd.prog 29 #[.slice (some ⟨blk, 0, none⟩) d.size cap] w fun e w' => e = .returned (.tuple #[]) ∧ ∃ n, w' = Sort.putRow (Value.int .u8) (Sort.ahead w n) blk 0 d.reverse := by
  go_enter Tryd.func29, Tryd.ntmps29
  go_wp2
  go_loopg [2, 3] d.size (fun k s2 s3 wr => ∃ (i jn : Nat) (jz : Int) (dk : Array Int) (n : Nat), s2 = .int .i64 i ∧ s3 = .int .i64 jz ∧ ((i : Int) < jz → jz = jn ∧ jn < d.size) ∧ (¬ (i : Int) < jz → ¬ i < jn) ∧ jn - i ≤ k ∧
    dk.size = d.size ∧ wr = Sort.putRow (Value.int .u8) (Sort.ahead w n) blk 0 dk ∧ Sort.reverseLoop i jn dk = Sort.reverseLoop 0 (d.size - 1) d)
  case atStart => exact ⟨0, d.size - 1, (d.size : Int) - 1, d, 0, rfl, rfl, fun h => ⟨by omega, by omega⟩, fun h => by omega, by omega, rfl, (Sort.putRow_self (Value.int .u8) w blk 0 d hH).symm, rfl⟩
  case round =>
    obtain ⟨i, jn, jz, dk, n, rfl, rfl, h1, h2, hk, hds, hwr, heq⟩ := hrel
    by_cases hlt : (i : Int) < jz
    · obtain ⟨rfl, hjn⟩ := h1 hlt
      have hij : i < jn := by omega
      have hHk : Sort.Holds (Value.int .u8) wr blk 0 dk := by rw [hwr]; exact Sort.holds_putRow (Value.int .u8) _ blk 0 d dk (Sort.holds_ahead (Value.int .u8) w n blk 0 d hH) hds
      obtain ⟨ci, fi⟩ := hHk i (by omega)
      obtain ⟨cj, fj⟩ := hHk jn (by omega)
      rw [Nat.zero_add] at ci fi cj fj
      have A := Lib.hid hwr
      have mixed := Tryd.lays220.mixed
      clear hwr hHk hH h1 h2
      go_wp2_with fail
      go_region_o
      go_wp2
      go_roundg (jn - 1 - (i + 1))
      case measure => omega
      case rel =>
        rw [Sort.reverseLoop, if_pos hij] at heq
        exact ⟨i + 1, jn - 1, (jn : Int) - 1, Sort.swp dk i jn, n + 1, by simp, rfl, fun h => ⟨by omega, by omega⟩, fun h => by omega, Nat.le_refl _, by rw [Sort.size_swp]; exact hds,
          by
            have := swap_world (Value.int .u8) (i := i) (j := jn) (by omega) (by omega) A.out (x := .int .u8 (dk[jn]'(by omega))) (y := .int .u8 dk[i]!) (by simp [getElem!_pos, show jn < dk.size by omega]) rfl
            simp only [Nat.zero_add] at this
            exact this, heq⟩
    · have hnot := h2 hlt
      go_wp2
      go_end0
      refine ⟨rfl, n, ?_⟩
      rw [Sort.reverseLoop, if_neg hnot] at heq
      rw [← Lib.reverseLoop_reverse, ← heq]

def revB (x : ByteArray) : ByteArray := ⟨x.data.toList.reverse.toArray⟩
theorem holds_conv (w : World) (s : ByteArray) (cap : Nat) (hs : s.size ≤ 1000000000) :
    Sort.Holds (Value.int .u8) ((w.alloc (.cells (bytesRow s cap) 5 ((bytesRow s cap).size, (bytesRow s cap).size + 1))).drew) w.heap.size 0 (s.data.toList.map fun c => (c.toNat : Int)).toArray := by
  intro j hj
  have hj' : j < s.size := by simpa using hj
  rw [Nat.zero_add]
  refine ⟨?_, ?_⟩
  · rw [cell_conv w 5 s cap _ j hj']
    congr 2
    rw [getElem!_pos _ j hj, List.getD_eq_getElem?_getD, List.getElem?_eq_getElem (by simpa using hj')]
    simp
  · have h1 : ((w.alloc (.cells (bytesRow s cap) 5 ((bytesRow s cap).size, (bytesRow s cap).size + 1))).drew).heap[w.heap.size]? = some (.cells (bytesRow s cap) 5 ((bytesRow s cap).size, (bytesRow s cap).size + 1)) := heap_alloc_new w _
    have h2 := bytesRow_at s cap j hj'
    have h3 : j < (bytesRow s cap).size := (Array.getElem?_eq_some_iff.1 h2).1
    unfold World.frozen?
    rw [h1]
    simp
    omega
theorem rev_nums (s : ByteArray) : strOfNums ((s.data.toList.map fun c => (c.toNat : Int)).toArray.reverse).toList = revB s := by
  apply ByteArray.ext
  apply Array.toList_inj.1
  rw [strOfNums_data]
  unfold revB
  simp [Function.comp_def]

set_option maxHeartbeats 4000000 in
theorem rev_fn (s : ByteArray) (w : World) (hs : s.size ≤ 1000000000) :
    Calls Tryd.prog 28 #[.string s] w fun e w' => e = .returned (.string (revB s)) ∧ Below w.heap.size w w' := by
  have hconv := run_bytes_of_string (P := Tryd.prog) w 9 40 5 s Tryd.underlying9 Tryd.underlying40 Tryd.underlying5
  generalize hcap : grownCap w s.size 0 5 = cap at hconv
  clear hcap
  have hH := holds_conv w s cap hs
  have hln : (s.data.toList.map fun c => (c.toNat : Int)).toArray.size = s.size := by simp
  have hrv := rev_nums s
  generalize (s.data.toList.map fun c => (c.toNat : Int)).toArray = d at hH hln hrv
  generalize (bytesRow s cap) = C at hconv hH
  have HH := Lib.hid hH
  have HL := Lib.hid hln
  have HRV := Lib.hid hrv
  clear hH hln hrv
  go_enter Tryd.func28, Tryd.ntmps28
  go_wp2_with fail
  have HC := Lib.hid (rev_bytes w.heap.size cap d _ HH.out (by rw [HL.out]; exact hs))
  rw [HL.out] at HC
  refine HC.out.mono ?_
  rintro e w2 ⟨rfl, n, hw2⟩
  have hb : Below w.heap.size w w2 := by
    rw [hw2]
    exact Lib.below_putRow (((Below.refl _ w).alloc (Nat.le_refl _) _).drew) (Nat.le_refl _)
  have hH2 : Sort.Holds (Value.int .u8) w2 w.heap.size 0 d.reverse := by
    rw [hw2]
    exact Sort.holds_putRow (Value.int .u8) _ w.heap.size 0 d d.reverse (Sort.holds_ahead _ _ n _ _ _ HH.out) (by simp)
  have hcv := run_convert_bytes_arg (P := Tryd.prog) (w := w2) 40 5 Tryd.underlying40 Tryd.underlying5 w.heap.size 0 s.size cap d.reverse.toList (by simp [HL.out]) (fun i hi => by
    have hi2 : i < d.reverse.size := by rw [Array.size_reverse, HL.out]; exact hi
    rw [(hH2 i hi2).1, getElem!_pos _ i hi2, List.getD_eq_getElem?_getD, List.getElem?_eq_getElem (by simpa using hi2)]
    simp) 9 Tryd.underlying9
  rw [HRV.out] at hcv
  have HB := Lib.hid hb
  clear hw2 hb hH2 HC
  go_wp2_with fail
  go_ret
  exact ⟨rfl, HB.out⟩

end Go.Proofs.YtbckpnioimhgcaaDoor.Ext

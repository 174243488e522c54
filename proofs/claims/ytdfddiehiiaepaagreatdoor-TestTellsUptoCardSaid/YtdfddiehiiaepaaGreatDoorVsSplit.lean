/- Proved: strings.SplitSeq at one octet hands out a text's pieces, one by one; Condition: texts shorter than 2 to the 63. -/
import Derived.Test.YtdfddiehiiaepaaGreatDoorVsSeqBox
import Derived.Test.YtdfddiehiiaepaaGreatDoorVsPathLib
import Derived.Shelf.Abstract
import Derived.Shelf.AbstractIn
import Derived.Shelf.RegionOpen
import Derived.WalkKit
import Derived.OwnWalkIn
import Derived.TacticsInMore
import Derived.LoopNIn
import Derived.LoopIn
import Derived.Maps.AppendAt
import Derived.Lib.Hide
import Derived.Test.YtdfddiehiiaepaaGreatDoorVsShelf
import Derived.Lib.Bytealg
import Derived.Lib.Strings
set_option linter.unusedVariables false
set_option linter.unusedSimpArgs false
namespace Go.Proofs.YtdfddiehiiaepaaGreatDoor.Ext
open Go.RowKit Go.Shelf
attribute [local go_sem] Oper.semAt_some
/-- A text's pieces between octets /. -/
def piecesB (s : ByteArray) : List ByteArray := (Path.splitL 47 s.data.toList).map fun l => ⟨l.toArray⟩
theorem splitL_none (c : UInt8) : ∀ l : List UInt8, Lib.indexByte l c < 0 → Path.splitL c l = [l]
  | [], _ => rfl
  | b :: l, h => by
    unfold Lib.indexByte at h
    split at h
    · omega
    · rename_i hb
      split at h
      · rename_i hi
        have ih := splitL_none c l (by rw [eq_of_beq hi]; decide)
        exact Path.splitL_cons_ne c b l l [] (fun e => hb (by simp [e])) ih
      · have := Lib.indexByte_ge l c
        have : Lib.indexByte l c ≠ -1 := by simpa using ‹¬ (Lib.indexByte l c == -1) = true›
        omega
theorem splitL_some (c : UInt8) : ∀ l : List UInt8, 0 ≤ Lib.indexByte l c → Path.splitL c l = l.take (Lib.indexByte l c).toNat :: Path.splitL c (l.drop ((Lib.indexByte l c).toNat + 1)) ∧ (Lib.indexByte l c).toNat < l.length
  | [], h => by simp [Lib.indexByte] at h
  | b :: l, h => by
    unfold Lib.indexByte at h ⊢
    split at h
    · rename_i hb
      rw [if_pos hb]
      refine ⟨?_, by simp⟩
      rw [Path.splitL, if_pos (eq_of_beq hb)]
      rfl
    · rename_i hb
      rw [if_neg hb]
      split at h
      · omega
      · rename_i hi
        rw [if_neg hi]
        have h0 := Lib.indexByte_ge l c
        have h1 : Lib.indexByte l c ≠ -1 := by simpa using hi
        obtain ⟨ih, hl⟩ := splitL_some c l (by omega)
        have e : (Lib.indexByte l c + 1).toNat = (Lib.indexByte l c).toNat + 1 := by omega
        rw [e]
        refine ⟨?_, by simp; omega⟩
        exact Path.splitL_cons_ne c b l _ _ (fun e => hb (by simp [e])) ih
theorem pieces_none {s : ByteArray} (h : Lib.indexByte s.data.toList 47 < 0) : piecesB s = [s] := by
  unfold piecesB
  rw [splitL_none 47 _ h]
  rfl
theorem pieces_some {s : ByteArray} (h : 0 ≤ Lib.indexByte s.data.toList 47) :
    piecesB s = s.extract 0 (Lib.indexByte s.data.toList 47).toNat :: piecesB (s.extract ((Lib.indexByte s.data.toList 47).toNat + 1) s.size) ∧ (Lib.indexByte s.data.toList 47).toNat < s.size := by
  obtain ⟨h1, h2⟩ := splitL_some 47 _ h
  unfold piecesB
  rw [h1, List.map_cons]
  refine ⟨?_, by rw [Lib.size_eq]; exact h2⟩
  congr 1
  · apply ByteArray.ext
    rw [ByteArray.data_extract]
    apply Array.ext'
    simp
  · congr 2
    rw [ByteArray.data_extract, Array.toList_extract, List.extract_eq_take_drop, List.take_of_length_le]
    rw [List.length_drop, Lib.size_eq]
    omega
theorem w64_id {x : Int} (h1 : -9223372036854775808 ≤ x) (h2 : x ≤ 9223372036854775807) : wrap64 x = x := by unfold wrap64; omega
/-- How long the text in a cell is. -/
def boxLen (W : World) (B : Nat) : Nat := match W.cell? ⟨B, 0, none⟩ with | some (.string s) => s.size | _ => 0
theorem boxLen_eq {W : World} {B : Nat} {t : TypeId} {s : ByteArray} (h : Boxed W B t (.string s)) : boxLen W B = s.size := by
  unfold boxLen
  rw [h.cell]
theorem index_one (s : ByteArray) (w : World) : Calls Tryz.prog 130 #[.string s, .string ⟨#[47]⟩] w fun e w' => e = .returned (.int .i64 (Lib.indexByte s.data.toList 47)) ∧ w' = w := Tryz.strings_Index_one s 47 w
set_option maxRecDepth 100000 in
set_option maxHeartbeats 4000000 in
theorem split_seq (n : Nat) (hn : 1 ≤ n) (s : ByteArray) (B : Nat) (w : World) (h1 : Boxed w B 9 (.string s)) (h2 : Boxed w (B + 1) 9 (.string ⟨#[47]⟩)) (h3 : Boxed w (B + 2) 3 (.int .i64 0)) (hsz : s.size ≤ 9223372036854775807) :
    SeqBox Fence.wide n Tryz.prog 129 #[.pointer (some ⟨B + 1, 0, none⟩), .pointer (some ⟨B, 0, none⟩), .pointer (some ⟨B + 2, 0, none⟩)] (fun x : ByteArray => #[Value.string x]) B 3 (piecesB s) w := by
  intro l J W hW hJb hJc hY h0
  refine callsIn_of_wp Tryz.func129 rfl trivial ?_ rfl
  simp only [Tryz.ntmps129, List.size_toArray, List.length_cons, List.length_nil, Nat.reduceAdd, Nat.reduceSub, Array.replicate_succ, Array.replicate_zero, List.push_toArray, List.append_toArray, List.nil_append, List.cons_append]
  have b1 : Boxed W B 9 (.string s) := (hW.block _ h1.lt).trans h1
  have b2 : Boxed W (B + 1) 9 (.string ⟨#[47]⟩) := (hW.block _ h2.lt).trans h2
  have b3 : Boxed W (B + 2) 3 (.int .i64 0) := (hW.block _ h3.lt).trans h3
  have c1 := b1.cell
  have c2 := b2.cell
  have c3 := b3.cell
  gi_wp2
  gi_loopw [] (fun wr => ∃ (pre : List ByteArray) (r : ByteArray), piecesB s = pre ++ piecesB r ∧ r.size ≤ s.size ∧ Boxed wr B 9 (.string r) ∧ Boxed wr (B + 1) 9 (.string ⟨#[47]⟩) ∧ Boxed wr (B + 2) 3 (.int .i64 0) ∧ J pre wr)
    (fun wr => boxLen wr B)
  case atStart => exact ⟨[], s, rfl, Nat.le_refl _, b1, b2, b3, h0⟩
  case round =>
    obtain ⟨pre, r, hx, hle, r1, r2, r3, hJ⟩ := hrel
    have d1 := r1.cell
    have d2 := r2.cell
    have d3 := r3.cell
    have hI := index_one r wr
    rcases Int.lt_or_le (Lib.indexByte r.data.toList 47) 0 with hi | hi
    · have hp := pieces_none hi
      have hY1 := hY pre r wr hJ (by rw [hx, hp]; exact List.prefix_refl _)
      have hd := decide_eq_true hi
      clear hY hJb hJc
      obtain ⟨fn, tmps, assign, body, hy, hR⟩ := hY1
      gi_wp2
      refine ⟨trivial, ?_⟩
      refine (callsIn_wide.2 hI).mono ?_
      rintro e w' ⟨rfl, rfl⟩
      gi_wp2
      refine hR.mono ?_
      rintro e W3 ⟨rfl, hJ3, hk3⟩
      gi_wp2
      go_end0
      exact ⟨⟨_, rfl⟩, by rw [hx, hp]; exact hJ3⟩
    · obtain ⟨hp, hlt⟩ := pieces_some hi
      obtain ⟨k, hk⟩ : ∃ k : Nat, Lib.indexByte r.data.toList 47 = (k : Int) := ⟨_, (Int.toNat_of_nonneg hi).symm⟩
      rw [hk, Int.toNat_natCast] at hp hlt
      rw [hk] at hI
      have hY1 := hY pre (r.extract 0 k) wr hJ (by rw [hx, hp]; exact ⟨_, by rw [List.append_assoc]; rfl⟩)
      have hd : decide ((k : Int) < 0) = false := decide_eq_false (by omega)
      have w1 : wrap64 (k : Int) = k := w64_id (by omega) (by omega)
      have w2 : wrap64 ((k : Int) + 1) = (k : Int) + 1 := w64_id (by omega) (by omega)
      have g1 : (k : Int) ≤ (r.size : Int) := by omega
      have g2 : (k : Int) + 1 ≤ (r.size : Int) := by omega
      have HX := Lib.hid hx
      have HP := Lib.hid hp
      clear hY hJb hi hk hx hp
      obtain ⟨fn, tmps, assign, body, hy, hR⟩ := hY1
      gi_wp2
      refine ⟨trivial, ?_⟩
      refine (callsIn_wide.2 hI).mono ?_
      rintro e w' ⟨rfl, rfl⟩
      gi_wp2
      refine hR.mono ?_
      rintro e W3 ⟨rfl, hJ3, hk3⟩
      have q1 : Boxed W3 B 9 (.string r) := (hk3 B (by omega) (by omega)).trans r1
      have q2 : Boxed W3 (B + 1) 9 (.string ⟨#[47]⟩) := (hk3 (B + 1) (by omega) (by omega)).trans r2
      have q3 : Boxed W3 (B + 2) 3 (.int .i64 0) := (hk3 (B + 2) (by omega) (by omega)).trans r3
      have e1 := q1.cell
      have e2 := q2.cell
      have e3 := q3.cell
      have f1 := q1.frozen
      have hm : boxLen w' B = r.size := boxLen_eq r1
      clear d1 d2 d3 hk3
      gi_wp2
      go_roundw
      case rel =>
        refine ⟨pre ++ [r.extract 0 k], r.extract (k + 1) r.size, ?_, ?_, q1.set _, q2.other (by omega) _, q3.other (by omega) _, hJc _ _ _ hJ3⟩
        · rw [HX.out, HP.out, List.append_assoc]
          rfl
        · rw [ByteArray.size_extract]
          omega
      case measure =>
        rw [boxLen_eq (q1.set _), hm, ByteArray.size_extract]
        omega
set_option maxRecDepth 100000 in
set_option maxHeartbeats 1000000 in
theorem splitSeq_in (n : Nat) (hn : 1 ≤ n) (s : ByteArray) (w : World) :
    CallsIn Fence.wide n Tryz.prog 112 #[.string s, .string ⟨#[47]⟩, .int .i64 0] w fun e w' =>
      e = .returned (.func (.func 129) #[] #[.pointer (some ⟨w.heap.size + 1, 0, none⟩), .pointer (some ⟨w.heap.size, 0, none⟩), .pointer (some ⟨w.heap.size + 2, 0, none⟩)]) ∧
      w' = ((w.alloc (.cells #[.string s] 9)).alloc (.cells #[.string ⟨#[47]⟩] 9)).alloc (.cells #[.int .i64 0] 3) := by
  refine callsIn_of_wp Tryz.func112 rfl trivial ?_ rfl
  simp only [Tryz.ntmps112, List.size_toArray, List.length_cons, List.length_nil, Nat.reduceAdd, Nat.reduceSub, Array.replicate_succ, Array.replicate_zero, List.push_toArray, List.append_toArray, List.nil_append, List.cons_append]
  gi_wp2
  go_ret
  exact ⟨rfl, rfl⟩
set_option maxRecDepth 100000 in
set_option maxHeartbeats 1000000 in
theorem SplitSeq_in (n : Nat) (hn : 2 ≤ n) (s : ByteArray) (w : World) :
    CallsIn Fence.wide n Tryz.prog 89 #[.string s, .string ⟨#[47]⟩] w fun e w' =>
      e = .returned (.func (.func 129) #[] #[.pointer (some ⟨w.heap.size + 1, 0, none⟩), .pointer (some ⟨w.heap.size, 0, none⟩), .pointer (some ⟨w.heap.size + 2, 0, none⟩)]) ∧
      w' = ((w.alloc (.cells #[.string s] 9)).alloc (.cells #[.string ⟨#[47]⟩] 9)).alloc (.cells #[.int .i64 0] 3) := by
  have HC := splitSeq_in (n - 1) (by omega) s w
  refine callsIn_of_wp Tryz.func89 rfl trivial ?_ rfl
  simp only [Tryz.ntmps89, List.size_toArray, List.length_cons, List.length_nil, Nat.reduceAdd, Nat.reduceSub, Array.replicate_succ, Array.replicate_zero, List.push_toArray, List.append_toArray, List.nil_append, List.cons_append]
  gi_wp2
  refine ⟨trivial, ⟨fun _ => by omega, ?_⟩⟩
  refine HC.mono ?_
  rintro e w' ⟨rfl, rfl⟩
  gi_wp2
  go_ret
  exact ⟨rfl, rfl⟩
end Go.Proofs.YtdfddiehiiaepaaGreatDoor.Ext

/- Proved: what package test's calls answer at fixed operators: test.in, Both of two texts or numbers, Single of -n and -z, Eval of three words and of none, and the law's alive; where the table of blanks holds what its initialiser lays. -/
import Derived.Test.YtdfddiehiiaepaaDoorShelf
import Derived.Test.YtdfddiehiiaepaaDoorQ29
import Derived.Test.YtdfddiehiiaepaaDoorQ31
import Derived.Test.YtdfddiehiiaepaaDoorQ32
import Derived.Test.YtdfddiehiiaepaaDoorQ33
import Derived.Lib.LaidTab
import Derived.Lib.Hide
set_option linter.unusedVariables false
namespace Go.Proofs.YtdfddiehiiaepaaDoor.Ext
open Go.RowKit Go.Proofs.YtdfddiehiiaepaaDoorW.PrintWords

/-- The table of blanks holds what its initialiser lays. -/
def Tab (w : World) : Prop := Lib.TabIs Tryd.prog w "strings.asciiSpace" .u8 Lib.asciiSpaceTab
theorem laid_tail {P : Program} {W : World} {x : String × DataW Unit} {rest : List (String × DataW Unit)} (h : laidMet P (x :: rest) W) : laidMet P rest W := by
  obtain ⟨n, d⟩ := x
  obtain ⟨ps, ⟨g, t, cs, fuel, p, q, h1, h2, h3, h4, hq, rfl⟩, nd, hc⟩ := h
  exact ⟨q, hq, (List.nodup_append.1 nd).2.1, fun b off hm => hc b off (List.mem_append_right _ hm)⟩
theorem Tab.below {w w' : World} (h : Tab w) (hb : Below w.heap.size w w') : Tab w' := by
  unfold Tab Lib.TabIs World.var? at h ⊢
  obtain ⟨g, hg, h⟩ := Option.bind_eq_some_iff.1 h
  rw [hg, Option.bind_some]
  have hlt : g < w.heap.size := by
    rcases Nat.lt_or_ge g w.heap.size with hl | hl
    · exact hl
    · rw [Array.getElem?_eq_none hl] at h
      cases h
  rw [hb.block g hlt]
  exact h
theorem below_next {n : Nat} {w w1 w2 : World} (h : Below n w w1) (hn : n ≤ w1.heap.size) (h2 : Below w1.heap.size w1 w2) : Below n w w2 := h.trans (h2.mono hn)

theorem row_strings {W : World} {B : Nat} {v : Value} {l : List ByteArray} (h : W.ownsRow B 9 1 v l.length (l.map Value.string)) : Kd.S Kd.string 9 W B (fun _ => True) v l := by
  refine Kd.S_bare ⟨fun _ _ => trivial, l.map Value.string, h, by rw [List.length_map]; exact (Nat.mul_one _).symm, fun j p hj => ?_⟩
  show ((l.map Value.string).drop (j * 1)).take 1 = [Value.string p]
  obtain ⟨hj1, hj2⟩ := List.getElem?_eq_some_iff.1 hj
  rw [Nat.mul_one, List.drop_eq_getElem_cons (by rw [List.length_map]; exact hj1), List.take_succ_cons, List.take_zero, List.getElem_map, hj2]
/-- The words of a text. -/
def wordsOf (t : ByteArray) : List ByteArray := (Lib.fields t.data.toList).map fun l => ⟨l.toArray⟩
def test_in.f (set s : ByteArray) : Option Bool :=
  if set.data.toList.all (fun c => decide (c.toNat < 128)) = true ∧ set.size ≤ 200 ∧ (wordsOf set).length ≤ 100 then (if s.size = 0 then some false else Q.slices_Contains_string_string.f 200 (wordsOf set) s) else none

theorem size_pos {s : ByteArray} (h : ¬ s.size = 0) : s.toList.isEmpty = false := by
  rw [Lib.toList_data]
  cases e : s.data.toList with
  | nil => exact absurd (by rw [Lib.size_eq, e]; rfl) h
  | cons b l => rfl
theorem size_nil {s : ByteArray} (h : s.size = 0) : s.toList.isEmpty = true := by
  rw [Lib.toList_data, List.isEmpty_iff]
  exact List.eq_nil_of_length_eq_zero (by rw [← Lib.size_eq]; exact h)

set_option maxHeartbeats 2000000 in
set_option maxRecDepth 100000 in
theorem test_in.calls (set s : ByteArray) (b : Bool) (w : World) (hT : Tab w) (h : test_in.f set s = some b) :
    Calls Tryd.prog 36 #[.string set, .string s] w fun e w' => e = .returned (.bool b) ∧ Below w.heap.size w w' := by
  unfold test_in.f at h
  split at h
  case isFalse => cases h
  rename_i hc
  obtain ⟨hasc, hset, hlen0⟩ := hc
  by_cases h0 : s.size = 0
  · rw [if_pos h0] at h
    obtain rfl := Option.some.inj h
    have h1 := size_nil h0
    go_enter Tryd.func36, Tryd.ntmps36
    go_wp2_with fail
    go_ret
    exact ⟨rfl, Below.refl _ _⟩
  rw [if_neg h0] at h
  have h1 := size_pos h0
  have hF := Tryd.strings_Fields_laid set w (by omega) (fun j c hj => by simpa using List.all_eq_true.1 hasc c (List.mem_of_getElem? hj)) hT
  have hlen : (Lib.fields set.data.toList).length = (wordsOf set).length := by unfold wordsOf; rw [List.length_map]
  rw [hlen] at hF
  have hcells : ((Lib.fields set.data.toList).map fun l => Value.string ⟨l.toArray⟩).toArray = ((wordsOf set).map Value.string).toArray := by
    unfold wordsOf
    rw [List.map_map]
    rfl
  rw [hcells] at hF
  have HF := Lib.hid hF
  have HB := Lib.hid h
  have HSZ := Lib.hid hlen0
  clear hF h hlen hcells hasc hset hlen0 hT h0
  have hrow : (w.alloc (.cells ((wordsOf set).map Value.string).toArray 9)).ownsRow w.heap.size 9 1 (.slice (some ⟨w.heap.size, 0, none⟩) (wordsOf set).length (wordsOf set).length) (wordsOf set).length ((wordsOf set).map Value.string) :=
    ⟨by simp, .inr ⟨w.heap.size, (wordsOf set).length, ((wordsOf set).map Value.string).toArray, rfl, Nat.le_refl _, heap_alloc_new _ _, Nat.le_refl _, Nat.le_trans HSZ.out (by decide), by simp, by rw [List.take_of_length_le (by simp)]⟩⟩
  have HC := Lib.hid (Kd.S_reads' (row_strings hrow)).2.2
  generalize wordsOf set = L at *
  clear hrow
  go_enter Tryd.func36, Tryd.ntmps36
  go_wp2_with fail
  refine HF.out.mono ?_
  rintro e w1 ⟨rfl, rfl⟩
  go_wp2_with fail
  refine (Q.slices_Contains_string_string.calls 200 _ _ L s b _ HC.out (Nat.le_refl _) HB.out).mono ?_
  rintro e w2 ⟨rfl, ⟨n2, rfl⟩⟩
  go_wp2_with fail
  go_ret
  exact ⟨rfl, pw_below_drewN ((Below.refl _ w).alloc (Nat.le_refl _) _) n2⟩

def numsT : ByteArray := ⟨#[45, 101, 113, 32, 45, 110, 101, 32, 45, 108, 116, 32, 45, 108, 101, 32, 45, 103, 116, 32, 45, 103, 101]⟩
def textsT : ByteArray := ⟨#[61, 32, 33, 61]⟩
/-- A status. -/
def st (b : Bool) : Int := if b = true then 0 else 1
theorem st_f (b : Bool) : Q.test_status.f b = some (st b) := by cases b <;> rfl

/-- What two texts answer by an operator of numbers. -/
def bothN (op a b : ByteArray) : Option Int := (Q.number_Parse.f a).bind fun p => (Q.number_Parse.f b).bind fun q =>
  if p.2 = 0 ∧ q.2 = 0 then (Q.test_order.f op p.1 q.1).map st else some 2

set_option maxHeartbeats 2000000 in
set_option maxRecDepth 100000 in
theorem both_eq (a b : ByteArray) (w : World) :
    Calls Tryd.prog 15 #[.string a, .string ⟨#[61]⟩, .string b] w fun e w' => e = .returned (.int .i64 (st (a.toList == b.toList))) ∧ Below w.heap.size w w' := by
  go_enter Tryd.func15, Tryd.ntmps15
  go_wp2_with fail
  refine (Q.test_status.calls (a.toList == b.toList) _ _ (st_f _)).mono ?_
  rintro e w1 ⟨rfl, ⟨n1, rfl⟩⟩
  go_wp2_with fail
  go_ret
  exact ⟨rfl, pw_below_drewN (Below.refl _ w) n1⟩
set_option maxHeartbeats 2000000 in
set_option maxRecDepth 100000 in
theorem both_ne (a b : ByteArray) (w : World) :
    Calls Tryd.prog 15 #[.string a, .string ⟨#[33, 61]⟩, .string b] w fun e w' => e = .returned (.int .i64 (st (a.toList != b.toList))) ∧ Below w.heap.size w w' := by
  go_enter Tryd.func15, Tryd.ntmps15
  go_wp2_with fail
  refine (Q.test_status.calls (a.toList != b.toList) _ _ (st_f _)).mono ?_
  rintro e w1 ⟨rfl, ⟨n1, rfl⟩⟩
  go_wp2_with fail
  go_ret
  exact ⟨rfl, pw_below_drewN (Below.refl _ w) n1⟩
set_option maxHeartbeats 4000000 in
set_option maxRecDepth 100000 in
theorem both_num (op a b : ByteArray) (r : Int) (w : World) (hT : Tab w) (h1 : (op.toList == [61]) = false) (h2 : (op.toList == [33, 61]) = false) (hin : test_in.f numsT op = some true) (h : bothN op a b = some r) :
    Calls Tryd.prog 15 #[.string a, .string op, .string b] w fun e w' => e = .returned (.int .i64 r) ∧ Below w.heap.size w w' := by
  unfold bothN at h
  obtain ⟨⟨p1, p2⟩, hp, h⟩ := Option.bind_eq_some_iff.1 h
  obtain ⟨⟨q1, q2⟩, hq, h⟩ := Option.bind_eq_some_iff.1 h
  dsimp only at h
  have HI := Lib.hid (test_in.calls numsT op true w hT hin)
  have HP := Lib.hid (fun w => Q.number_Parse.calls a p1 p2 w hp)
  have HQ := Lib.hid (fun w => Q.number_Parse.calls b q1 q2 w hq)
  unfold numsT at HI
  clear hp hq hT hin
  by_cases hp2 : p2 = 0
  · by_cases hq2 : q2 = 0
    · rw [if_pos ⟨hp2, hq2⟩] at h
      obtain ⟨o, ho, rfl⟩ := Option.map_eq_some_iff.1 h
      subst hp2 hq2
      have HO := Lib.hid (fun w => Q.test_order.calls op p1 q1 o w ho)
      clear ho h
      go_enter Tryd.func15, Tryd.ntmps15
      go_wp2_with fail
      refine HI.out.mono ?_
      rintro e w1 ⟨rfl, hb1⟩
      have HB1 := Lib.hid hb1
      clear hb1
      go_wp2_with fail
      refine (HP.out _).mono ?_
      rintro e w2 ⟨rfl, hb2⟩
      have HB2 := Lib.hid (below_next HB1.out HB1.out.size hb2)
      clear hb2
      go_wp2_with fail
      refine (HQ.out _).mono ?_
      rintro e w3 ⟨rfl, hb3⟩
      have HB3 := Lib.hid (below_next HB2.out HB2.out.size hb3)
      clear hb3
      go_wp2_with fail
      refine (HO.out _).mono ?_
      rintro e w4 ⟨rfl, ⟨n4, rfl⟩⟩
      go_wp2_with fail
      refine (Q.test_status.calls o _ _ (st_f _)).mono ?_
      rintro e w5 ⟨rfl, ⟨n5, rfl⟩⟩
      go_wp2_with fail
      go_ret
      exact ⟨rfl, pw_below_drewN HB3.out (n4 + n5)⟩
    · rw [if_neg (fun hc => hq2 hc.2)] at h
      obtain rfl := Option.some.inj h
      subst hp2
      have hq3 : (q2 != 0) = true := bne_iff_ne.2 hq2
      clear h
      go_enter Tryd.func15, Tryd.ntmps15
      go_wp2_with fail
      refine HI.out.mono ?_
      rintro e w1 ⟨rfl, hb1⟩
      have HB1 := Lib.hid hb1
      clear hb1
      go_wp2_with fail
      refine (HP.out _).mono ?_
      rintro e w2 ⟨rfl, hb2⟩
      have HB2 := Lib.hid (below_next HB1.out HB1.out.size hb2)
      clear hb2
      go_wp2_with fail
      refine (HQ.out _).mono ?_
      rintro e w3 ⟨rfl, hb3⟩
      have HB3 := Lib.hid (below_next HB2.out HB2.out.size hb3)
      clear hb3
      go_wp2_with fail
      go_ret
      exact ⟨rfl, HB3.out⟩
  · rw [if_neg (fun hc => hp2 hc.1)] at h
    obtain rfl := Option.some.inj h
    have hp3 : (p2 != 0) = true := bne_iff_ne.2 hp2
    clear h
    go_enter Tryd.func15, Tryd.ntmps15
    go_wp2_with fail
    refine HI.out.mono ?_
    rintro e w1 ⟨rfl, hb1⟩
    have HB1 := Lib.hid hb1
    clear hb1
    go_wp2_with fail
    refine (HP.out _).mono ?_
    rintro e w2 ⟨rfl, hb2⟩
    have HB2 := Lib.hid (below_next HB1.out HB1.out.size hb2)
    clear hb2
    go_wp2_with fail
    refine (HQ.out _).mono ?_
    rintro e w3 ⟨rfl, hb3⟩
    have HB3 := Lib.hid (below_next HB2.out HB2.out.size hb3)
    clear hb3
    go_wp2_with fail
    go_ret
    exact ⟨rfl, HB3.out⟩
set_option maxHeartbeats 2000000 in
set_option maxRecDepth 100000 in
theorem single_n (s : ByteArray) (w : World) :
    Calls Tryd.prog 16 #[.string ⟨#[45, 110]⟩, .string s, .slice none 0 0] w fun e w' => e = .returned (.int .i64 (st (!s.toList.isEmpty))) ∧ Below w.heap.size w w' := by
  go_enter Tryd.func16, Tryd.ntmps16
  go_wp2_with fail
  refine (Q.test_status.calls (!s.toList.isEmpty) _ _ (st_f _)).mono ?_
  rintro e w1 ⟨rfl, ⟨n1, rfl⟩⟩
  go_wp2_with fail
  go_ret
  exact ⟨rfl, pw_below_drewN (Below.refl _ w) n1⟩
set_option maxHeartbeats 2000000 in
set_option maxRecDepth 100000 in
theorem single_z (s : ByteArray) (w : World) :
    Calls Tryd.prog 16 #[.string ⟨#[45, 122]⟩, .string s, .slice none 0 0] w fun e w' => e = .returned (.int .i64 (st (s.toList.isEmpty))) ∧ Below w.heap.size w w' := by
  go_enter Tryd.func16, Tryd.ntmps16
  go_wp2_with fail
  refine (Q.test_status.calls (s.toList.isEmpty) _ _ (st_f _)).mono ?_
  rintro e w1 ⟨rfl, ⟨n1, rfl⟩⟩
  go_wp2_with fail
  go_ret
  exact ⟨rfl, pw_below_drewN (Below.refl _ w) n1⟩
end Go.Proofs.YtdfddiehiiaepaaDoor.Ext

/- Proved: test.in's call, where the table of blanks holds what its initialiser lays. Condition: a set of at most 200 octets of ASCII, of at most 100 words. -/
import Derived.Test.YtdfddiehiiaepaaGreatDoorVsShelf
import Derived.Test.YtdfddiehiiaepaaGreatDoorVsR1
import Derived.Lib.LaidTab
import Derived.Lib.Hide
set_option linter.unusedVariables false
namespace Go.Proofs.YtdfddiehiiaepaaGreatDoor.Ext
open Go.RowKit Go.Proofs.YtdfddiehiiaepaaGreatDoorW.PrintWords
/-- The table of blanks holds what its initialiser lays. -/
def Tab (w : World) : Prop := Lib.TabIs Tryz.prog w "strings.asciiSpace" .u8 Lib.asciiSpaceTab
theorem laid_tail {P : Program} {W : World} {x : String × DataW Unit} {rest : List (String × DataW Unit)} (h : laidMet P (x :: rest) W) : laidMet P rest W := by
  obtain ⟨n, d⟩ := x
  obtain ⟨ps, ⟨g, t, cs, fuel, p, q, h1, h2, h3, h4, hq, rfl⟩, nd, hc⟩ := h
  exact ⟨q, hq, (List.nodup_append.1 nd).2.1, fun b off hm => hc b off (List.mem_append_right _ hm)⟩
theorem Tab.below {w w' : World} (h : Tab w) (hb : Below w.heap.size w w') : Tab w' := by
  unfold Tab Lib.TabIs World.var? at h ⊢
  obtain ⟨g, hg, h⟩ := Option.bind_eq_some_iff.1 h
  rw [hg, Option.bind_some]
  have hlt : g < w.heap.size := by
    rcases Nat.lt_or_ge g w.heap.size with hl | hl
    · exact hl
    · rw [Array.getElem?_eq_none hl] at h
      cases h
  rw [hb.block g hlt]
  exact h
theorem below_next {n : Nat} {w w1 w2 : World} (h : Below n w w1) (hn : n ≤ w1.heap.size) (h2 : Below w1.heap.size w1 w2) : Below n w w2 := h.trans (h2.mono hn)
theorem row_strings {W : World} {B : Nat} {v : Value} {l : List ByteArray} (h : W.ownsRow B 9 1 v l.length (l.map Value.string)) : Kd.S Kd.string 9 W B (fun _ => True) v l := by
  refine Kd.S_bare ⟨fun _ _ => trivial, l.map Value.string, h, by rw [List.length_map]; exact (Nat.mul_one _).symm, fun j p hj => ?_⟩
  show ((l.map Value.string).drop (j * 1)).take 1 = [Value.string p]
  obtain ⟨hj1, hj2⟩ := List.getElem?_eq_some_iff.1 hj
  rw [Nat.mul_one, List.drop_eq_getElem_cons (by rw [List.length_map]; exact hj1), List.take_succ_cons, List.take_zero, List.getElem_map, hj2]
/-- The words of a text. -/
def wordsOf (t : ByteArray) : List ByteArray := (Lib.fields t.data.toList).map fun l => ⟨l.toArray⟩
def test_in.f (set s : ByteArray) : Option Bool :=
  if set.data.toList.all (fun c => decide (c.toNat < 128)) = true ∧ set.size ≤ 200 ∧ (wordsOf set).length ≤ 100 then (if s.size = 0 then some false else R.slices_Contains_string_string.f 200 (wordsOf set) s) else none
theorem size_pos {s : ByteArray} (h : ¬ s.size = 0) : s.toList.isEmpty = false := by
  rw [Lib.toList_data]
  cases e : s.data.toList with
  | nil => exact absurd (by rw [Lib.size_eq, e]; rfl) h
  | cons b l => rfl
theorem size_nil {s : ByteArray} (h : s.size = 0) : s.toList.isEmpty = true := by
  rw [Lib.toList_data, List.isEmpty_iff]
  exact List.eq_nil_of_length_eq_zero (by rw [← Lib.size_eq]; exact h)
set_option maxHeartbeats 2000000 in
set_option maxRecDepth 100000 in
theorem test_in.calls (set s : ByteArray) (b : Bool) (w : World) (hT : Tab w) (h : test_in.f set s = some b) :
    Calls Tryz.prog 44 #[.string set, .string s] w fun e w' => e = .returned (.bool b) ∧ Below w.heap.size w w' := by
  unfold test_in.f at h
  split at h
  case isFalse => cases h
  rename_i hc
  obtain ⟨hasc, hset, hlen0⟩ := hc
  by_cases h0 : s.size = 0
  · rw [if_pos h0] at h
    obtain rfl := Option.some.inj h
    have h1 := size_nil h0
    go_enter Tryz.func44, Tryz.ntmps44
    go_wp2_with fail
    go_ret
    exact ⟨rfl, Below.refl _ _⟩
  rw [if_neg h0] at h
  have h1 := size_pos h0
  have hF := Tryz.strings_Fields_laid set w (by omega) (fun j c hj => by simpa using List.all_eq_true.1 hasc c (List.mem_of_getElem? hj)) hT
  have hlen : (Lib.fields set.data.toList).length = (wordsOf set).length := by unfold wordsOf; rw [List.length_map]
  rw [hlen] at hF
  have hcells : ((Lib.fields set.data.toList).map fun l => Value.string ⟨l.toArray⟩).toArray = ((wordsOf set).map Value.string).toArray := by
    unfold wordsOf
    rw [List.map_map]
    rfl
  rw [hcells] at hF
  have HF := Lib.hid hF
  have HB := Lib.hid h
  have HSZ := Lib.hid hlen0
  clear hF h hlen hcells hasc hset hlen0 hT h0
  have hrow : (w.alloc (.cells ((wordsOf set).map Value.string).toArray 9)).ownsRow w.heap.size 9 1 (.slice (some ⟨w.heap.size, 0, none⟩) (wordsOf set).length (wordsOf set).length) (wordsOf set).length ((wordsOf set).map Value.string) :=
    ⟨by simp, .inr ⟨w.heap.size, (wordsOf set).length, ((wordsOf set).map Value.string).toArray, rfl, Nat.le_refl _, heap_alloc_new _ _, Nat.le_refl _, Nat.le_trans HSZ.out (by decide), by simp, by rw [List.take_of_length_le (by simp)]⟩⟩
  have HC := Lib.hid (Kd.S_reads' (row_strings hrow)).2.2
  generalize wordsOf set = L at *
  clear hrow
  go_enter Tryz.func44, Tryz.ntmps44
  go_wp2_with fail
  refine HF.out.mono ?_
  rintro e w1 ⟨rfl, rfl⟩
  go_wp2_with fail
  refine (R.slices_Contains_string_string.calls 200 _ _ L s b _ HC.out (Nat.le_refl _) HB.out).mono ?_
  rintro e w2 ⟨rfl, ⟨n2, rfl⟩⟩
  go_wp2_with fail
  go_ret
  exact ⟨rfl, pw_below_drewN ((Below.refl _ w).alloc (Nat.le_refl _) _) n2⟩
end Go.Proofs.YtdfddiehiiaepaaGreatDoor.Ext

/- Proved: the calls of strings.IndexByte, strings.Join, tree.parts, slices.BinarySearchFunc with tree.by, tree.kind, tree.above in the print's form. Conditions: texts shorter than 2 to the 40. -/
import Derived.Test.YtdfddiehiiaepaaGreatDoorVsParts
import Derived.Test.YtdfddiehiiaepaaGreatDoorVsNum
import Derived.Test.YtdfddiehiiaepaaGreatDoorVsJoinS
import Derived.Test.YtdfddiehiiaepaaGreatDoorVsP1
import Derived.Lib.LastIndexByte
import Derived.Test.YtdfddiehiiaepaaGreatDoorVsShelf
import Derived.Sort.Walk0
import Derived.Shelf.RegionOpenPlain
set_option linter.unusedVariables false
set_option linter.unusedSimpArgs false
namespace Go.Proofs.YtdfddiehiiaepaaGreatDoor.Ext
open Go.RowKit Go.Shelf Go.Proofs.YtdfddiehiiaepaaGreatDoorW.PrintWords Go.Proofs.YtdfddiehiiaepaaGreatDoor.P
theorem compare_calls (a b : ByteArray) (w : World) : Calls Tryz.prog 90 #[.string a, .string b] w fun e w' => e = .returned (.int .i64 (Lib.compareBytes a.data.toList b.data.toList)) ∧ w' = w := Tryz.strings_Compare a b w
set_option maxHeartbeats 2000000 in
set_option maxRecDepth 100000 in
theorem by_calls (n : S73) (p : ByteArray) (w : World) :
    Calls Tryz.prog 57 #[.agg #[.string n.f0, .bool n.f1, .string n.f2], .string p] w fun e w' => e = .returned (.int .i64 (Lib.compareBytes n.f0.data.toList p.data.toList)) ∧ Below w.heap.size w w' := by
  go_enter Tryz.func57, Tryz.ntmps57
  go_wp2_with fail
  refine (compare_calls _ _ _).mono ?_
  rintro e w' ⟨rfl, rfl⟩
  go_wp2_with fail
  go_ret
  exact ⟨rfl, (Below.refl _ w).alloc (Nat.le_refl _) _⟩
/-- The search's rounds. -/
def bsGo (t : List S73) (p : ByteArray) : Nat → Nat → Nat → Nat
  | 0, i, _ => i
  | k + 1, i, j => if i < j then (if Lib.compareBytes (rd_T73 t ((i + j) / 2 : Nat)).f0.data.toList p.data.toList < 0 then bsGo t p k ((i + j) / 2 + 1) j else bsGo t p k i ((i + j) / 2)) else i
def bs (t : List S73) (p : ByteArray) : Nat := bsGo t p (t.length + 1) 0 t.length
def bsIs (t : List S73) (p : ByteArray) : Bool := decide (bs t p < t.length) && (Lib.compareBytes (rd_T73 t (bs t p)).f0.data.toList p.data.toList == 0)
set_option maxHeartbeats 4000000 in
set_option maxRecDepth 100000 in
theorem search_calls (A : Option Addr) (c : Nat) (t : List S73) (p : ByteArray) (w : World) (hr : Kd.C k73 w A t.length t) (hc : t.length ≤ c) (hlen : t.length ≤ 1099511627776) :
    Calls Tryz.prog 56 #[.slice A t.length c, .string p, .func (.func 57) #[] #[]] w fun e w' => e = .returned (.tuple #[.int .i64 (bs t p), .bool (bsIs t p)]) ∧ Below w.heap.size w w' := by
  go_enter Tryz.func56, Tryz.ntmps56
  go_wp2
  go_loopw [9, 10] (fun vi vj wr => ∃ (i j k : Nat), vi = .int .i64 (i : Int) ∧ vj = .int .i64 (j : Int) ∧ i ≤ j ∧ j ≤ t.length ∧ j < k + i ∧ bsGo t p k i j = bs t p ∧ Below w.heap.size w wr)
    (fun vi vj _ => (intOf vj).toNat - (intOf vi).toNat)
  case atStart => exact ⟨0, t.length, t.length + 1, rfl, rfl, by omega, by omega, by omega, rfl, Below.refl _ _⟩
  case round =>
    obtain ⟨i, j, k, rfl, rfl, hij, hj, hk, hbs, hB⟩ := hrel
    cases k with
    | zero => omega
    | succ k =>
      rw [bsGo] at hbs
      by_cases hlt : i < j
      · rw [if_pos hlt] at hbs
        have hd : decide ((i : Int) < (j : Int)) = true := decide_eq_true (by omega)
        obtain ⟨ad, rfl, hx0, hx1, hx2⟩ := at_T73 (Kd.C_below hr hB) ((i + j) / 2 : Nat) (by omega) (by omega)
        simp only [Int.toNat_natCast] at hx0 hx1 hx2
        generalize hm : (i + j) / 2 = m at *
        have hm2 : ((i : Int) + (j : Int)) / 2 = (m : Int) := by omega
        have hm3 : i ≤ m := by omega
        have hm4 : m < j := by omega
        have HBS := Lib.hid hbs
        have HB := Lib.hid hB
        clear hbs hm hB
        go_wp2_with fail
        refine (by_calls (rd_T73 t m) p wr).mono ?_
        rintro e w1 ⟨rfl, hb1⟩
        have HB1 := Lib.hid (HB.out.trans (hb1.mono HB.out.size))
        clear hb1
        generalize hcv : Lib.compareBytes (rd_T73 t (m : Int)).f0.data.toList p.data.toList = cv at *
        by_cases hneg : cv < 0
        · have hd2 : decide (cv < 0) = true := decide_eq_true hneg
          have h2 := HBS.out
          rw [if_pos hneg] at h2
          have HBT := Lib.hid h2
          clear HBS h2
          go_wp2_with fail
          go_roundw
          case rel => exact ⟨m + 1, j, k, by simp, rfl, by omega, hj, by omega, HBT.out, HB1.out⟩
          case measure => simp [intOf]; omega
        · have hd2 : decide (cv < 0) = false := decide_eq_false hneg
          have h2 := HBS.out
          rw [if_neg hneg] at h2
          have HBT := Lib.hid h2
          clear HBS h2
          go_wp2_with fail
          go_roundw
          case rel => exact ⟨i, m, k, rfl, by simp, by omega, by omega, by omega, HBT.out, HB1.out⟩
          case measure => simp [intOf]; omega
      · rw [if_neg hlt] at hbs
        obtain rfl : i = j := by omega
        have hd : decide ((i : Int) < (i : Int)) = false := decide_eq_false (by omega)
        have HB := Lib.hid hB
        clear hB
        subst hbs
        by_cases hlt2 : bs t p < t.length
        · have hd3 : decide ((bs t p : Int) < (t.length : Int)) = true := decide_eq_true (by omega)
          obtain ⟨ad, rfl, hx0, hx1, hx2⟩ := at_T73 (Kd.C_below hr HB.out) (bs t p : Nat) (by omega) (by omega)
          simp only [Int.toNat_natCast] at hx0 hx1 hx2
          go_wp2_with fail
          refine (by_calls (rd_T73 t (bs t p : Nat)) p wr).mono ?_
          rintro e w1 ⟨rfl, hb1⟩
          have HB1 := Lib.hid (HB.out.trans (hb1.mono HB.out.size))
          clear hb1
          go_wp2_with fail
          go_ret2
          refine ⟨?_, HB1.out⟩
          unfold bsIs
          rw [decide_eq_true hlt2]
          simp
        · have hd3 : decide ((bs t p : Int) < (t.length : Int)) = false := decide_eq_false (by omega)
          go_wp2_with fail
          go_ret2
          refine ⟨?_, HB.out⟩
          unfold bsIs
          rw [decide_eq_false hlt2]
          simp
/-- 0 nothing, 1 a file, 2 a directory. -/
def kindOf (t : List S73) (p : ByteArray) : Int :=
  if (p.toList == [47]) = true then 2 else if bsIs t p = true then (if (rd_T73 t (bs t p)).f1 = true then 2 else 1) else 0
def tree_kind.f (t : List S73) (p : ByteArray) : Option Int := if t.length ≤ 1099511627776 then some (kindOf t p) else none
set_option maxHeartbeats 4000000 in
set_option maxRecDepth 100000 in
theorem tree_kind.calls (A : Option Addr) (c : Nat) (t : List S73) (p : ByteArray) (r : Int) (w : World) (hr : Kd.C k73 w A t.length t) (hc : t.length ≤ c) (h : tree_kind.f t p = some r) :
    Calls Tryz.prog 55 #[.slice A t.length c, .string p] w fun e w' => e = .returned (.int .i64 r) ∧ Below w.heap.size w w' := by
  unfold tree_kind.f at h
  split at h
  case isFalse => cases h
  rename_i hlen
  obtain rfl := Option.some.inj h
  have HS := Lib.hid (search_calls A c t p w hr hc hlen)
  clear h
  cases h1 : p.toList == [47]
  · cases h2 : bsIs t p
    · have hk : kindOf t p = 0 := by unfold kindOf; rw [if_neg (by simp [h1]), if_neg (by simp [h2])]
      rw [hk]
      go_enter Tryz.func55, Tryz.ntmps55
      go_wp2_with fail
      refine HS.out.mono ?_
      rintro e w1 ⟨rfl, hb1⟩
      have HB1 := Lib.hid hb1
      clear hb1
      go_wp2_with fail
      go_ret
      exact ⟨rfl, HB1.out⟩
    · have hlt : bs t p < t.length := by
        unfold bsIs at h2
        simp at h2
        exact h2.1
      cases h3 : (rd_T73 t (bs t p : Nat)).f1
      · have hk : kindOf t p = 1 := by unfold kindOf; rw [if_neg (by simp [h1]), if_pos h2, if_neg (by simp [h3])]
        rw [hk]
        go_enter Tryz.func55, Tryz.ntmps55
        go_wp2_with fail
        refine HS.out.mono ?_
        rintro e w1 ⟨rfl, hb1⟩
        have HB1 := Lib.hid hb1
        clear hb1
        obtain ⟨ad, rfl, hx0, hx1, hx2⟩ := at_T73 (Kd.C_below hr HB1.out) (bs t p : Nat) (by omega) (by omega)
        simp only [Int.toNat_natCast] at hx0 hx1 hx2
        rw [h3] at hx1
        go_wp2_with fail
        go_ret
        exact ⟨rfl, HB1.out⟩
      · have hk : kindOf t p = 2 := by unfold kindOf; rw [if_neg (by simp [h1]), if_pos h2, if_pos h3]
        rw [hk]
        go_enter Tryz.func55, Tryz.ntmps55
        go_wp2_with fail
        refine HS.out.mono ?_
        rintro e w1 ⟨rfl, hb1⟩
        have HB1 := Lib.hid hb1
        clear hb1
        obtain ⟨ad, rfl, hx0, hx1, hx2⟩ := at_T73 (Kd.C_below hr HB1.out) (bs t p : Nat) (by omega) (by omega)
        simp only [Int.toNat_natCast] at hx0 hx1 hx2
        rw [h3] at hx1
        go_wp2_with fail
        go_ret
        exact ⟨rfl, HB1.out⟩
  · have hk : kindOf t p = 2 := by unfold kindOf; rw [if_pos h1]
    rw [hk]
    go_enter Tryz.func55, Tryz.ntmps55
    go_wp2_with fail
    refine HS.out.mono ?_
    rintro e w1 ⟨rfl, hb1⟩
    have HB1 := Lib.hid hb1
    clear hb1
    go_wp2_with fail
    go_ret
    exact ⟨rfl, HB1.out⟩
theorem lastIndex_calls (s : ByteArray) (hs : s.size ≤ 1099511627776) (w : World) : Calls Tryz.prog 94 #[.string s, .string ⟨#[47]⟩] w fun e w' => e = .returned (.int .i64 (Lib.lastIndexByte s 47)) ∧ w' = w :=
  Tryz.strings_LastIndex_one s ⟨#[47]⟩ rfl (by omega) w
theorem run_max_str {P : Program} (ats : Array TypeId) (ty : TypeId) (x y : ByteArray) (w : World) :
    (Builtin.max_ ats ty #[.string x, .string y]).run P w = .ok (.string (if Op.bytesLess x.toList y.toList = true then y else x)) w := by
  simp [Builtin.max_, Builtin.max2, Op.stringOp, go_sem]
  cases Op.bytesLess x.toList y.toList <;> rfl
theorem bytesLess_self : ∀ l : List UInt8, Op.bytesLess l l = false := by
  intro l
  rw [bytesLess_eq]
  simp
theorem bytesLess_nil : ∀ l : List UInt8, l ≠ [] → Op.bytesLess [] l = true
  | [], h => absurd rfl h
  | _ :: _, _ => rfl
def tree_above.f (p : ByteArray) : Option (ByteArray × ByteArray) :=
  if p.size ≤ 1099511627776 ∧ 0 ≤ Lib.lastIndexByte p 47 ∧ Lib.lastIndexByte p 47 < p.size then
    some (if Lib.lastIndexByte p 47 = 0 then p.extract 0 1 else p.extract 0 (Lib.lastIndexByte p 47).toNat, p.extract ((Lib.lastIndexByte p 47).toNat + 1) p.size)
  else none
set_option maxHeartbeats 4000000 in
set_option maxRecDepth 100000 in
theorem tree_above.calls (p : ByteArray) (r1 r2 : ByteArray) (w : World) (h : tree_above.f p = some (r1, r2)) :
    Calls Tryz.prog 70 #[.string p] w fun e w' => e = .returned (.tuple #[.string r1, .string r2]) ∧ Drawn0 w w' := by
  unfold tree_above.f at h
  split at h
  case isFalse => cases h
  rename_i hb
  have HL := Lib.hid (lastIndex_calls p hb.1 w)
  obtain ⟨k, hk⟩ : ∃ k : Nat, Lib.lastIndexByte p 47 = (k : Int) := ⟨_, (Int.toNat_of_nonneg hb.2.1).symm⟩
  rw [hk] at h HL hb
  have hlt : k < p.size := by omega
  have w1 : wrap64 ((k : Int) + 1) = (k : Int) + 1 := w64_id (by omega) (by omega)
  have g1 : (k : Int) ≤ (p.size : Int) := by omega
  have g2 : (k : Int) + 1 ≤ (p.size : Int) := by omega
  have g3 : (1 : Int) ≤ (p.size : Int) := by omega
  rcases Nat.eq_zero_or_pos k with h0 | h0
  · subst h0
    obtain ⟨rfl, rfl⟩ := Prod.mk.inj (Option.some.inj h)
    clear h hb hk
    go_enter Tryz.func70, Tryz.ntmps70
    go_wp2_with fail
    refine HL.out.mono ?_
    rintro e w' ⟨rfl, rfl⟩
    go_wp2_with fail
    have mixed : Tryz.prog.follows Departure.mixedOrders = true := by kernel_rfl
    have hm : ∀ (ats : Array TypeId) (ty : TypeId) (w : World), (Builtin.max_ ats ty #[.string ByteArray.empty, .string (p.extract 0 1)]).run Tryz.prog w = .ok (.string (p.extract 0 1)) w := fun ats ty w => by
      rw [run_max_str, if_pos]
      rw [Lib.toList_data, show ByteArray.empty.data.toList = [] from rfl]
      refine bytesLess_nil _ (fun e => ?_)
      have := congrArg List.length e
      rw [Lib.toList_data, ← Lib.size_eq, ByteArray.size_extract, List.length_nil] at this
      omega
    have hx1 : max (0 : Int) 1 = 1 := rfl
    go_region_o
    go_wp2_with fail
    go_ret2
    exact ⟨rfl, ⟨1, rfl⟩⟩
  · obtain ⟨rfl, rfl⟩ := Prod.mk.inj (Option.some.inj h)
    clear h hb hk
    have hd : decide ((k : Int) < 1) = false := decide_eq_false (by omega)
    have hk0 : ¬ (k : Int) = 0 := by omega
    go_enter Tryz.func70, Tryz.ntmps70
    go_wp2_with fail
    refine HL.out.mono ?_
    rintro e w' ⟨rfl, rfl⟩
    go_wp2_with fail
    have mixed : Tryz.prog.follows Departure.mixedOrders = true := by kernel_rfl
    have hm : ∀ (ats : Array TypeId) (ty : TypeId) (w : World), (Builtin.max_ ats ty #[.string (p.extract 0 k), .string (p.extract 0 k)]).run Tryz.prog w = .ok (.string (p.extract 0 k)) w := fun ats ty w => by
      rw [run_max_str, if_neg]
      rw [bytesLess_self]
      simp
    have hx1 : max (k : Int) 1 = (k : Int) := by omega
    go_region_o
    go_wp2_with fail
    go_ret2
    exact ⟨by simp [hk0], ⟨1, rfl⟩⟩
theorem row_strs7 {W : World} {B : Nat} {v : Value} {l : List ByteArray} (h : W.ownsRow B 9 1 v l.length (l.map Value.string)) : Kd.S Kd.string 9 W B (fun _ => True) v l := by
  refine Kd.S_bare ⟨fun _ _ => trivial, l.map Value.string, h, by rw [List.length_map]; exact (Nat.mul_one _).symm, fun j p hj => ?_⟩
  show ((l.map Value.string).drop (j * 1)).take 1 = [Value.string p]
  obtain ⟨hj1, hj2⟩ := List.getElem?_eq_some_iff.1 hj
  rw [Nat.mul_one, List.drop_eq_getElem_cons (by rw [List.length_map]; exact hj1), List.take_succ_cons, List.take_zero, List.getElem_map, hj2]
def tree_parts.f (s : ByteArray) : Option (List ByteArray) := if s.size ≤ 1099511627776 then some (partsB s) else none
theorem tree_parts.calls (s : ByteArray) (r : List ByteArray) (w : World) (h : tree_parts.f s = some r) :
    Calls Tryz.prog 51 #[.string s] w fun e w' => ∃ v0_ : Value, e = .returned v0_ ∧ Kd.R Kd.string 9 w' w.heap.size (fun _ => True) v0_ r ∧ Below w.heap.size w w' := by
  unfold tree_parts.f at h
  split at h
  case isFalse => cases h
  rename_i hs
  obtain rfl := Option.some.inj h
  refine (callsIn_wide.1 (parts_in s w hs)).mono ?_
  rintro e w' ⟨v, rfl, hr, hb⟩
  exact ⟨v, rfl, Kd.S_R (row_strs7 hr), hb⟩
end Go.Proofs.YtdfddiehiiaepaaGreatDoor.Ext

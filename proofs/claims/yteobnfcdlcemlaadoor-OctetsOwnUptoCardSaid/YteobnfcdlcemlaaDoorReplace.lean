/- Proved: strings.ReplaceAll's call at an old text of one octet puts the new text in the place of each such octet. Conditions: the new text has an octet and is not the old one; what is made is of at most 10 to the 9 octets. -/
import Derived.Test.YteobnfcdlcemlaaDoorBuilderS
import Derived.Test.YteobnfcdlcemlaaDoorShelf
import Derived.Shelf.Strings.MapGrows
import Derived.Lib.ReplaceLaws
import Derived.Lib.IndexLaws
import Derived.Lib.SplitLaws
import Derived.Lib.Hide
set_option linter.unusedVariables false
namespace Go.Proofs.YteobnfcdlcemlaaDoor.Ext
open Go.RowKit Go.Proofs.YteobnfcdlcemlaaDoorW.PrintWords

def repL (c : UInt8) (new : List UInt8) (s : List UInt8) : List UInt8 := s.flatMap fun x => if x = c then new else [x]
theorem repL_none (c : UInt8) (new : List UInt8) : ∀ s : List UInt8, c ∉ s → repL c new s = s
  | [], _ => rfl
  | x :: s, h => by
    have hx : x ≠ c := fun e => h (by simp [e])
    have ih := repL_none c new s (fun hm => h (List.mem_cons_of_mem _ hm))
    unfold repL at ih ⊢
    rw [List.flatMap_cons, ih, if_neg hx]
    rfl
theorem repL_hit (c : UInt8) (new a b : List UInt8) (h : c ∉ a) : repL c new (a ++ c :: b) = a ++ (new ++ repL c new b) := by
  have h1 := repL_none c new a h
  unfold repL at h1 ⊢
  rw [List.flatMap_append, h1, List.flatMap_cons, if_pos rfl]
theorem repL_len (c : UInt8) (new : List UInt8) : ∀ s : List UInt8, (repL c new s).length = s.length - s.count c + s.count c * new.length
  | [] => by simp [repL]
  | x :: s => by
    have ih := repL_len c new s
    have hc : s.count c ≤ s.length := List.count_le_length
    unfold repL at ih ⊢
    rw [List.flatMap_cons, List.length_append, ih]
    by_cases hx : x = c
    · subst hx
      rw [if_pos rfl, List.count_cons_self, List.length_cons, Nat.succ_mul]
      omega
    · rw [if_neg hx, List.count_cons_of_ne (by simpa using hx), List.length_singleton, List.length_cons]
      omega

theorem one_at (c : UInt8) (s : List UInt8) (h : 0 < s.count c) : ∃ o : Nat, Lib.indexByte s c = (o : Int) ∧ o < s.length ∧ s = s.take o ++ c :: s.drop (o + 1) ∧ c ∉ s.take o ∧ (s.drop (o + 1)).count c + 1 = s.count c := by
  have hm := List.count_pos_iff.1 h
  have h0 : 0 ≤ Lib.indexByte s c := by
    have h1 := Lib.indexByte_ge s c
    rcases Int.lt_or_le (Lib.indexByte s c) 0 with h2 | h2
    · have h3 := Lib.indexByte_none (l := s) (c := c) (by omega)
      obtain ⟨k, hk⟩ := List.mem_iff_getElem?.1 hm
      exact absurd hk (h3 k)
    · exact h2
  obtain ⟨o, ho⟩ := Int.eq_ofNat_of_zero_le h0
  obtain ⟨h1, h2⟩ := Lib.indexByte_some ho
  obtain ⟨hlt, hget⟩ := List.getElem?_eq_some_iff.1 h1
  have hs : s = s.take o ++ c :: s.drop (o + 1) := by
    have h3 := List.take_append_drop o s
    rw [List.drop_eq_getElem_cons hlt, hget] at h3
    exact h3.symm
  have hno : c ∉ s.take o := by
    intro hm
    obtain ⟨k, hk⟩ := List.mem_iff_getElem?.1 hm
    rw [List.getElem?_take] at hk
    split at hk
    · rename_i hko; exact h2 k hko hk
    · cases hk
  refine ⟨o, ho, hlt, hs, hno, ?_⟩
  have h4 := congrArg (List.count c) hs
  rw [List.count_append, List.count_cons_self, List.count_eq_zero.2 hno] at h4
  omega

theorem str_cells (s : ByteArray) : Lib.strCells s = Lib.byteCells s.data.toList := rfl
theorem bytes_app (a b : List UInt8) : Lib.byteCells a ++ Lib.byteCells b = Lib.byteCells (a ++ b) := by
  unfold Lib.byteCells
  rw [List.map_append]
theorem sub_data (s : ByteArray) (a b : Nat) : (s.extract a b).data.toList = (s.data.toList.drop a).take (b - a) := by
  rw [Lib.extract_data]

set_option maxHeartbeats 8000000 in
set_option maxRecDepth 100000 in
theorem Replace_one (s new : ByteArray) (c : UInt8) (w : World) (hne : new ≠ ⟨#[c]⟩) (hn0 : 1 ≤ new.size) (hlen : s.size + s.data.toList.count c * new.size ≤ 1000000000) :
    Calls Tryd.prog 34 #[.string s, .string ⟨#[c]⟩, .string new, .int .i64 (-1)] w fun e w' => e = .returned (.string ⟨(repL c new.data.toList s.data.toList).toArray⟩) ∧ Below w.heap.size w w' := by
  have hbeq : ((⟨#[c]⟩ : ByteArray).toList == new.toList) = false := (Lib.bytes_beq_false_iff ⟨#[c]⟩ new).2 (fun e => hne e.symm)
  have hC := Lib.hid (Tryd.strings_Count_one s c)
  have hI := Lib.hid (fun (x : ByteArray) => Tryd.strings_Index_one x c)
  have hl : s.data.toList.length = s.size := by simp
  have hcl : s.data.toList.count c ≤ s.data.toList.length := List.count_le_length
  by_cases hz : s.data.toList.count c = 0
  · have hr : (⟨(repL c new.data.toList s.data.toList).toArray⟩ : ByteArray) = s := by
      rw [repL_none c _ _ (List.count_eq_zero.1 hz)]
    rw [hr]
    unfold Lib.countByte at hC
    rw [hz] at hC
    generalize (⟨#[c]⟩ : ByteArray) = old at *
    go_enter Tryd.func34, Tryd.ntmps34
    go_wp2_with (go_at_call 44; refine (hC.out _).mono ?_; rintro e w' ⟨rfl, rfl⟩)
    go_ret
    exact ⟨rfl, Below.refl _ _⟩
  · unfold Lib.countByte at hC
    have hzb : (((s.data.toList.count c : Nat) : Int) == 0) = false := beq_eq_false_iff_ne.2 (by omega)
    obtain ⟨K, hK⟩ : ∃ K, s.data.toList.count c = K := ⟨_, rfl⟩
    rw [hK] at hC hzb hlen hz
    have hone : (⟨#[c]⟩ : ByteArray).size = 1 := rfl
    have hga : wrap64 ((s.size : Int) + wrap64 ((K : Int) * wrap64 ((new.size : Int) - 1))) = ((s.size + K * new.size - K * 1 : Nat) : Int) := Lib.grow_arg s.size K new.size 1 (by omega) (by omega) (Nat.le_trans hlen (by decide))
    have hgb : s.size + K * new.size - K * 1 ≤ 281474976710656 := by omega
    generalize s.size + K * new.size - K * 1 = G at hga hgb
    have HGB := Lib.hid hgb
    have HK := Lib.hid hK
    have HLEN := Lib.hid hlen
    have HL := Lib.hid hl
    generalize hold : (⟨#[c]⟩ : ByteArray) = old at *
    have HOLD := Lib.hid hold
    clear hK hold hcl hgb
    go_enter Tryd.func34, Tryd.ntmps34
    go_wp2_with (go_at_call 44; refine (hC.out _).mono ?_; rintro e w' ⟨rfl, rfl⟩)
    rw [hga]
    have HGR := Lib.hid (Tryd.Builder_Grow_fresh w'.heap.size w'.heap.size G (w'.alloc (.cells #[.pointer none, .slice none 0 0] 55)) (Nat.le_refl _) (heap_alloc_new w' _) (by simp) HGB.out)
    refine HGR.out.mono ?_
    rintro e w1 ⟨rfl, hb0, hb1⟩
    have HB0 := Lib.hid (Or.inr (Lib.BuilderAtF.of hb0) : Lib.IsBuilderF 55 5 w'.heap.size w'.heap.size (Lib.byteCells []) w1)
    have HB1 := Lib.hid (((Below.refl w'.heap.size w').alloc (Nat.le_refl _) _).trans hb1)
    have HGA := Lib.hid hga
    clear hb0 hb1 hga hlen hne hl HGR
    go_wp2_with fail
    go_loopw [11, 53] (fun s11 s53 wr => ∃ (i start : Nat) (acc : List UInt8), s53 = .int .i64 i ∧ s11 = .int .i64 start ∧ start ≤ s.size ∧ i ≤ K ∧ (s.data.toList.drop start).count c + i = K ∧ acc ++ repL c new.data.toList (s.data.toList.drop start) = repL c new.data.toList s.data.toList ∧
      acc.length + (s.size - start) + (K - i) * new.size ≤ s.size + K * new.size ∧ Lib.IsBuilderF 55 5 w'.heap.size w'.heap.size (Lib.byteCells acc) wr ∧ Below w'.heap.size w' wr) (fun _ s53 _ => K - (intOf s53).toNat)
    case atStart => exact ⟨0, 0, [], rfl, rfl, Nat.zero_le _, Nat.zero_le _, by rw [List.drop_zero]; simpa using HK.out, by simp, by simp, HB0.out, HB1.out⟩
    case round =>
      obtain ⟨i, start, acc, rfl, rfl, hst, hiK, hcnt, hacc, hbd, hbl, hbw⟩ := hrel
      have HBL := Lib.hid hbl
      have HBW := Lib.hid hbw
      have HACC := Lib.hid hacc
      have HCNT := Lib.hid hcnt
      have HBD := Lib.hid hbd
      have hws := hbw.size
      have c1 : (0 : Int) ≤ (start : Int) := by omega
      have c2 : (start : Int) ≤ (s.size : Int) := by omega
      have hdl : (s.data.toList.drop start).length = s.size - start := by rw [List.length_drop, HL.out]
      have HDL := Lib.hid hdl
      clear hbl hbw hacc hcnt hbd hdl
      by_cases hlt : i < K
      · obtain ⟨o, ho, hol, hs, hno, hco⟩ := one_at c (s.data.toList.drop start) (by have := HCNT.out; omega)
        rw [HDL.out] at hol
        have hIx := hI.out (s.extract start s.size)
        rw [Lib.extract_to_end, ho] at hIx
        have HIX := Lib.hid hIx
        have HS := Lib.hid hs
        have HNO := Lib.hid hno
        have HCO := Lib.hid hco
        have hlen := HLEN.out
        have hsK : s.size ≤ 1000000000 := by omega
        have c3 : (start : Int) ≤ (start : Int) + (o : Int) := by omega
        have c4 : (start : Int) + (o : Int) ≤ (s.size : Int) := by omega
        have c5 : wrap64 ((start : Int) + (o : Int)) = (start : Int) + (o : Int) := by unfold wrap64; omega
        have hK1 : K ≤ 1000000000 := by
          have := HBD.out
          have h7 : K * 1 ≤ K * new.size := Nat.mul_le_mul_left K hn0
          omega
        have hsub : (K - i) * new.size = (K - (i + 1)) * new.size + new.size := by
          rw [← Nat.succ_mul]
          congr 1
          omega
        have HSUB := Lib.hid hsub
        clear hs hno hco hIx hlen hsub
        go_wp2_with fail
        refine (HIX.out _).mono ?_
        rintro e w2 ⟨rfl, rfl⟩
        go_wp2_with fail
        refine (WriteString w'.heap.size w'.heap.size _ (s.extract start (start + o)) _ HBL.out (by
          rw [Lib.byteCells_length, ByteArray.size_extract]
          have := HBD.out
          have := HLEN.out
          omega) hws).mono ?_
        rintro e w3 ⟨rfl, h3, hb3, _⟩
        have hws3 := Nat.le_trans hws hb3.size
        rw [str_cells, bytes_app] at h3
        have H3 := Lib.hid h3
        have HB3 := Lib.hid (HBW.out.trans hb3)
        clear h3 hb3
        go_wp2_with fail
        refine (WriteString w'.heap.size w'.heap.size _ new _ (.inr H3.out) (by
          rw [Lib.byteCells_length, List.length_append]
          have h1 := HBD.out
          have h2 := HLEN.out
          have h3 := HSUB.out
          have h4 : (s.extract start (start + o)).data.toList.length = o := by
            rw [sub_data, List.length_take, HDL.out]
            omega
          omega) hws3).mono ?_
        rintro e w4 ⟨rfl, h4, hb4, _⟩
        have hws4 := Nat.le_trans hws3 hb4.size
        rw [str_cells, bytes_app] at h4
        have H4 := Lib.hid h4
        have HB4 := Lib.hid (HB3.out.trans hb4)
        clear h4 hb4
        go_wp2_with fail
        go_roundw
        case rel =>
          have hx : (s.extract start (start + o)).data.toList = (s.data.toList.drop start).take o := by
            rw [sub_data]
            congr 1
            omega
          have hdd : s.data.toList.drop (start + o + 1) = (s.data.toList.drop start).drop (o + 1) := by rw [List.drop_drop]; congr 1
          refine ⟨i + 1, start + o + 1, acc ++ (s.extract start (start + o)).data.toList ++ new.data.toList, by go_num, by first | go_num | (show _ = Value.int .i64 ((start + o + 1 : Nat) : Int); congr 1; unfold wrap64; omega), by omega, by omega, ?_, ?_, ?_, .inr H4.out, HB4.out⟩
          · rw [hdd]
            have h1 := HCO.out
            have h2 := HCNT.out
            omega
          · rw [hdd, hx, ← HACC.out]
            conv => rhs; rw [HS.out, repL_hit c _ _ _ HNO.out]
            simp only [List.append_assoc]
          · have h1 := HBD.out
            have h3 := HSUB.out
            have h4 : ((s.data.toList.drop start).take o).length = o := by
              rw [List.length_take, HDL.out]
              omega
            have h5 : new.data.toList.length = new.size := by simp
            rw [hx, List.length_append, List.length_append, h4, h5]
            omega
        case measure => simp [intOf]; omega
      · obtain rfl : i = K := by omega
        have h0 : (s.data.toList.drop start).count c = 0 := by have := HCNT.out; omega
        have hfin : acc ++ s.data.toList.drop start = repL c new.data.toList s.data.toList := by
          have h1 := HACC.out
          rw [repL_none c _ _ (List.count_eq_zero.1 h0)] at h1
          exact h1
        have HFIN := Lib.hid hfin
        have hsK : s.size ≤ 1000000000 := by have := HLEN.out; omega
        clear h0 hfin
        go_wp2_with fail
        refine (WriteString w'.heap.size w'.heap.size _ (s.extract start s.size) _ HBL.out (by
          rw [Lib.byteCells_length, ByteArray.size_extract]
          have := HBD.out
          have := HLEN.out
          omega) hws).mono ?_
        rintro e w3 ⟨rfl, h3, hb3, _⟩
        rw [str_cells, Lib.extract_to_end, bytes_app, HFIN.out] at h3
        have H3 := Lib.hid h3
        have HB3 := Lib.hid (HBW.out.trans hb3)
        have hws3 := Nat.le_trans hws hb3.size
        clear h3 hb3
        go_wp2_with fail
        refine (Tryd.Builder_String_any_f w'.heap.size w'.heap.size _ _ (.inr H3.out) hws3).mono ?_
        rintro e w5 ⟨rfl, _, hb5⟩
        have HB5 := Lib.hid (HB3.out.trans hb5)
        clear hb5
        go_wp2_with fail
        go_ret
        exact ⟨rfl, HB5.out⟩

def strings_ReplaceAll.f (s old new : ByteArray) : Option ByteArray :=
  match old.data.toList with
  | [c] => if new ≠ old ∧ 1 ≤ new.size ∧ s.size + s.data.toList.count c * new.size ≤ 1000000000 then some ⟨(repL c new.data.toList s.data.toList).toArray⟩ else none
  | _ => none
set_option maxHeartbeats 1000000 in
theorem strings_ReplaceAll.calls (a0 a1 a2 : ByteArray) (r : ByteArray) (w : World) (h : strings_ReplaceAll.f a0 a1 a2 = some r) :
    Calls Tryd.prog 22 #[.string a0, .string a1, .string a2] w fun e w' => e = .returned (.string r) ∧ Below w.heap.size w w' := by
  unfold strings_ReplaceAll.f at h
  split at h
  case h_2 => cases h
  rename_i c hc
  obtain rfl : a1 = ⟨#[c]⟩ := by
    apply ByteArray.ext
    apply Array.toList_inj.1
    rw [hc]
  split at h
  case isFalse => cases h
  rename_i hb
  obtain rfl := Option.some.inj h
  have HR := Lib.hid (fun w => Replace_one a0 a2 c w hb.1 hb.2.1 hb.2.2)
  clear h hb hc
  generalize (⟨#[c]⟩ : ByteArray) = old at *
  go_enter Tryd.func22, Tryd.ntmps22
  go_wp2_with fail
  refine (HR.out _).mono ?_
  rintro e w' ⟨rfl, hb⟩
  have HB := Lib.hid hb
  clear hb
  go_wp2_with fail
  go_ret
  exact ⟨rfl, HB.out⟩

end Go.Proofs.YteobnfcdlcemlaaDoor.Ext

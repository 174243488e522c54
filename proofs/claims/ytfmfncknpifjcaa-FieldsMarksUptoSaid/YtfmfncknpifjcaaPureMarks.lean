/- Proved: the law FieldsMarks over rows of texts alone: texts without octets that cut, a mark behind each, are cut into them; for rows whose bulk is at most 1048576. -/
import Derived.Test.YtfmfncknpifjcaaP22
import Derived.Test.YtfmfncknpifjcaaOpens
namespace Go.Proofs.Ytfmfncknpifjcaa.PureM
open Go.RowKit Go.Proofs.Ytfmfncknpifjcaa.Ext Go.Proofs.Ytfmfncknpifjcaa.P Go.Proofs.YtfmfncknpifjcaaW.PrintWords

theorem wrap_in (i : Int) (n : Nat) (h0 : 0 ≤ i) (h : i < n) (hn : n ≤ 9223372036854775807) : wrap64 (i + 1) = i + 1 := by
  unfold wrap64
  omega
theorem alive_ok : cowrielaw08_alive.f = some true := by
  unfold cowrielaw08_alive.f
  have h : fields_Fields.f ([(⟨[⟨97, false⟩, ⟨32, false⟩, ⟨98, false⟩], true, false, false⟩ : S28)]) ⟨#[32]⟩ = some [[⟨97, false⟩], [⟨98, false⟩]] := rfl
  rw [h]
  rfl

def keepB (b : UInt8) : Bool := decide (b.toNat ≠ 44) && decide (b.toNat ≠ 32)
def txt (s : ByteArray) : List UInt8 := s.data.toList.filter keepB
def charsOf (t : List UInt8) : List S24 := t.map fun b => ⟨(b.toNat : Int), false⟩
def marks : List S24 := [⟨44, false⟩, ⟨32, false⟩]
def allOf (l : List ByteArray) : List S24 := l.flatMap fun s => charsOf (txt s) ++ marks
def wantOf (l : List ByteArray) : List ByteArray := l.map fun s => ⟨(txt s).toArray⟩
def bulk (l : List ByteArray) : Nat := (l.map fun y0 => y0.size + 1).sum

theorem keep_char (b : UInt8) (h : keepB b = true) (s : PS) : pChar ⟨#[44, 32]⟩ true s ⟨(b.toNat : Int), false⟩ = pBegin ⟨s.out, s.now ++ [⟨(b.toNat : Int), false⟩], s.op, s.wh⟩ := by
  unfold pChar
  rw [if_neg]
  rintro ⟨_, _, h3⟩
  simp only [keepB, Bool.and_eq_true, decide_eq_true_eq] at h
  have e : UInt8.ofNat ((b.toNat : Int)).toNat = b := by simp
  rw [e] at h3
  have n1 : ((44 : UInt8) == b) = false := by
    rw [beq_eq_false_iff_ne]
    rintro rfl
    exact h.1 rfl
  have n2 : ((32 : UInt8) == b) = false := by
    rw [beq_eq_false_iff_ne]
    rintro rfl
    exact h.2 rfl
  have : Lib.indexByte [44, 32] b = -1 := by simp [Lib.indexByte, n1, n2]
  rw [show (⟨#[44, 32]⟩ : ByteArray).data.toList = [44, 32] from rfl, this] at h3
  omega
theorem keep_fold : ∀ (t : List UInt8) (s : PS), (∀ b ∈ t, keepB b = true) → (charsOf t).foldl (pChar ⟨#[44, 32]⟩ true) s = if t = [] then s else ⟨s.out, s.now ++ charsOf t, true, false⟩
  | [], s, _ => rfl
  | b :: t, s, h => by
    have e := keep_char b (h b List.mem_cons_self) s
    have ih := keep_fold t (pBegin ⟨s.out, s.now ++ [⟨(b.toNat : Int), false⟩], s.op, s.wh⟩) fun x hx => h x (List.mem_cons_of_mem _ hx)
    show (charsOf t).foldl (pChar ⟨#[44, 32]⟩ true) (pChar ⟨#[44, 32]⟩ true s ⟨(b.toNat : Int), false⟩) = _
    rw [e, ih]
    cases t with
    | nil => rfl
    | cons d t => simp [pBegin, charsOf]
theorem mark_fold (t : List UInt8) (out : List (List S24)) (h : ∀ b ∈ t, keepB b = true) :
    (charsOf t ++ marks).foldl (pChar ⟨#[44, 32]⟩ true) ⟨out, [], false, false⟩ = ⟨out ++ [charsOf t], [], false, false⟩ := by
  rw [List.foldl_append, keep_fold t _ h]
  cases t with
  | nil => rfl
  | cons b t => rfl
theorem all_fold : ∀ (l : List ByteArray) (out : List (List S24)), (allOf l).foldl (pChar ⟨#[44, 32]⟩ true) ⟨out, [], false, false⟩ = ⟨out ++ l.map (fun s => charsOf (txt s)), [], false, false⟩
  | [], out => by simp [allOf]
  | s :: l, out => by
    have e : allOf (s :: l) = (charsOf (txt s) ++ marks) ++ allOf l := rfl
    rw [e, List.foldl_append, mark_fold (txt s) out (fun b hb => (List.mem_filter.1 hb).2), all_fold l]
    simp
theorem txt_len (s : ByteArray) : (txt s).length ≤ s.size := by
  have := List.length_filter_le keepB s.data.toList
  simpa [txt] using this
theorem all_len : ∀ l : List ByteArray, (allOf l).length ≤ 2 * bulk l
  | [] => Nat.zero_le _
  | s :: l => by
    have ih := all_len l
    have h := txt_len s
    have e : allOf (s :: l) = (charsOf (txt s) ++ marks) ++ allOf l := rfl
    have e2 : bulk (s :: l) = s.size + 1 + bulk l := rfl
    rw [e, e2, List.length_append, List.length_append]
    have e3 : (charsOf (txt s)).length = (txt s).length := by simp [charsOf]
    have e4 : marks.length = 2 := rfl
    omega
theorem bulk_take : ∀ (l : List ByteArray) (i : Nat), bulk (l.take i) ≤ bulk l
  | [], i => by simp
  | s :: l, 0 => by simp [bulk]
  | s :: l, i + 1 => by
    have := bulk_take l i
    rw [List.take_succ_cons]
    simp only [bulk, List.map_cons, List.sum_cons] at this ⊢
    omega
theorem bulk_len : ∀ l : List ByteArray, l.length ≤ bulk l
  | [] => Nat.zero_le _
  | s :: l => by
    have := bulk_len l
    simp only [bulk, List.map_cons, List.sum_cons, List.length_cons] at this ⊢
    omega
theorem bulk_get : ∀ (l : List ByteArray) (i : Nat) (h : i < l.length), l[i].size + 1 ≤ bulk l
  | s :: l, 0, _ => by simp [bulk]
  | s :: l, i + 1, h => by
    have := bulk_get l i (by simpa using h)
    simp only [bulk, List.map_cons, List.sum_cons, List.getElem_cons_succ] at this ⊢
    omega
theorem fields_all (l : List ByteArray) (h : bulk l ≤ 1048576) : fields_Fields.f [(⟨allOf l, true, false, false⟩ : S28)] ⟨#[44, 32]⟩ = some (l.map fun s => charsOf (txt s)) := by
  unfold fields_Fields.f
  have ht : tot [(⟨allOf l, true, false, false⟩ : S28)] = (allOf l).length + 1 := rfl
  have hl := all_len l
  rw [if_pos (by omega)]
  have e : [(⟨allOf l, true, false, false⟩ : S28)].foldl (pPiece ⟨#[44, 32]⟩) ⟨[], [], false, false⟩ = (allOf l).foldl (pChar ⟨#[44, 32]⟩ true) ⟨[], [], false, false⟩ := rfl
  simp only [e, all_fold l []]
  simp

theorem octets_chars : ∀ t : List UInt8, octets (charsOf t) = t
  | [] => rfl
  | b :: t => by
    have := octets_chars t
    simp only [octets, charsOf, List.map_cons, List.map_map] at this ⊢
    rw [this]
    simp
theorem octets_all : ∀ t : List UInt8, (charsOf t).all isOctet = true
  | [] => rfl
  | b :: t => by
    have := octets_all t
    have hb := b.toNat_lt
    simp only [charsOf, List.map_cons, List.all_cons, Bool.and_eq_true] at this ⊢
    refine ⟨?_, this⟩
    simp only [isOctet, Bool.and_eq_true, decide_eq_true_eq]
    omega
theorem text_of (t : List UInt8) (h : t.length ≤ 1000000000) : glob_Text.f (charsOf t) = some ⟨t.toArray⟩ := by
  unfold glob_Text.f
  rw [if_pos ⟨by simpa [charsOf] using h, octets_all t⟩, octets_chars]
theorem rd_atL (l : List (List S24)) (i : Nat) (h : i < l.length) : rd_L3 l (i : Int) = l[i] := by
  unfold rd_L3
  rw [Int.toNat_natCast, List.getD_eq_getElem?_getD, List.getElem?_eq_getElem h]
  rfl
theorem rd_of (l : List ByteArray) (i : Nat) (h : i < l.length) : rdOf ByteArray.empty l (i : Int) = l[i] := by
  unfold rdOf
  rw [Int.toNat_natCast, List.getD_eq_getElem?_getD, List.getElem?_eq_getElem h]
  rfl
theorem texts_run (l : List ByteArray) (hb : bulk l ≤ 1048576) : ∀ (d i : Nat) (x3 : List ByteArray), i + d = l.length → x3.length + d ≤ 3000000 →
    fields_Texts.l0 (d + 1) x3 (l.map fun s => charsOf (txt s)) ((l.map fun s => charsOf (txt s)).length : Int) (i : Int) = some (x3 ++ wantOf (l.drop i)) := by
  intro d
  have hlen := bulk_len l
  induction d with
  | zero =>
    intro i x3 hi _
    obtain rfl : i = l.length := by omega
    rw [fields_Texts.l0, if_neg (by simp), List.drop_length]
    simp [wantOf]
  | succ d ih =>
    intro i x3 hi hx
    have hi' : i < l.length := by omega
    have hg := bulk_get l i hi'
    have ht := txt_len l[i]
    rw [fields_Texts.l0, if_pos (by simp; omega), if_pos (by omega), if_pos (by simp; omega), rd_atL _ i (by simpa using hi'), List.getElem_map, text_of _ (by omega)]
    simp only [Option.bind_some]
    rw [if_pos (by omega), wrap_in (i : Int) l.length (by omega) (by omega) (by omega)]
    have := ih (i + 1) (x3 ++ [⟨(txt l[i]).toArray⟩]) (by omega) (by simp; omega)
    rw [show ((i + 1 : Nat) : Int) = (i : Int) + 1 from rfl] at this
    rw [this, List.drop_eq_getElem_cons hi', List.append_assoc]
    rfl
theorem same_self (l : List ByteArray) (hl : l.length ≤ 1000000000) : ∀ (d k : Nat) (i : Int), 0 ≤ i → i + d = l.length → d < k → cowrieplain_SameTexts.l0 k l l i = some true := by
  intro d
  induction d with
  | zero =>
    intro k i h0 hd hk
    obtain ⟨k, rfl⟩ : ∃ m, k = m + 1 := ⟨k - 1, by omega⟩
    rw [cowrieplain_SameTexts.l0, if_neg (by omega)]
  | succ d ih =>
    intro k i h0 hd hk
    obtain ⟨k, rfl⟩ : ∃ m, k = m + 1 := ⟨k - 1, by omega⟩
    rw [cowrieplain_SameTexts.l0, if_pos (by omega), if_pos h0, if_pos (by omega), if_pos rfl, wrap_in i l.length h0 (by omega) (by omega)]
    exact ih k (i + 1) (by omega) (by omega) (by omega)

theorem app_one (pre : List UInt8) (b : UInt8) : (⟨pre.toArray⟩ : ByteArray) ++ (⟨#[b]⟩ : ByteArray) = ⟨(pre ++ [b]).toArray⟩ := by
  apply ByteArray.ext
  simp [ByteArray.data_append]
theorem extract_one (s : ByteArray) (j : Nat) (h : j < s.data.toList.length) : s.extract j (j + 1) = (⟨#[s.data.toList[j]]⟩ : ByteArray) := by
  apply ByteArray.ext
  rw [ByteArray.data_extract]
  apply Array.ext'
  rw [Array.toList_extract, List.extract_eq_take_drop, List.drop_eq_getElem_cons h, show j + 1 - j = 1 by omega]
  rfl
theorem bt_at (s : ByteArray) (j : Nat) (h : j < s.data.toList.length) : bt s (j : Int) = ((s.data.toList[j]).toNat : Int) := by
  have h' : j < s.size := by simpa using h
  unfold bt
  rw [Int.toNat_natCast, dif_pos h']
  rfl

theorem run_l1 (x0 x4 : List ByteArray) (i : Nat) (hi : i < x0.length) (hs : (x0[i]).size ≤ 1048576) : ∀ (d j k : Nat) (x3 : List S24) (pre : List UInt8), j + d = (x0[i]).size → x3.length + d ≤ 100000000 → pre.length + d ≤ 100000000 →
    cowrielaw08_FieldsMarks.l1 (k + d) x0 x3 x4 (i : Int) ⟨pre.toArray⟩ (j : Int) =
      cowrielaw08_FieldsMarks.l1 k x0 (x3 ++ charsOf (((x0[i]).data.toList.drop j).filter keepB)) x4 (i : Int) ⟨(pre ++ ((x0[i]).data.toList.drop j).filter keepB).toArray⟩ ((x0[i]).size : Int) := by
  intro d
  induction d with
  | zero =>
    intro j k x3 pre hj _ _
    obtain rfl : j = (x0[i]).size := by omega
    rw [List.drop_of_length_le (by simp)]
    simp [charsOf]
  | succ d ih =>
    intro j k x3 pre hj h3 hp
    have hj' : j < (x0[i]).data.toList.length := by simp; omega
    have hb := bt_at x0[i] j hj'
    have he := extract_one x0[i] j hj'
    rw [← Nat.add_assoc, cowrielaw08_FieldsMarks.l1, if_pos (by omega), if_pos (by omega), rd_of x0 i hi, if_pos (by omega), if_pos (show (0 : Int) ≤ (j : Int) by omega), wrap_in (j : Int) (x0[i]).size (by omega) (by omega) (by omega),
      show ((j : Int) + 1) = ((j + 1 : Nat) : Int) from rfl, Int.toNat_natCast, Int.toNat_natCast, he, hb, List.drop_eq_getElem_cons hj']
    generalize (x0[i]).data.toList[j] = b
    have one := ih (j + 1) k x3 pre (by omega) (by omega) (by omega)
    have two := ih (j + 1) k (x3 ++ [⟨(b.toNat : Int), false⟩]) (pre ++ [b]) (by omega) (by simp; omega) (by simp; omega)
    by_cases h44 : b.toNat = 44
    · rw [if_pos (by omega), one, List.filter_cons, if_neg (by simp [keepB, h44])]
    · rw [if_neg (by omega)]
      by_cases h32 : b.toNat = 32
      · rw [if_pos (by omega), one, List.filter_cons, if_neg (by simp [keepB, h32])]
      · rw [if_neg (by omega), if_pos (by omega), if_pos (by omega), app_one, if_pos (by
          have : (⟨pre.toArray⟩ : ByteArray).size = pre.length := by simp [ByteArray.size]
          have h1 : (⟨#[b]⟩ : ByteArray).size = 1 := rfl
          rw [this, h1]
          omega), if_pos (by omega), two, List.filter_cons, if_pos (by simp [keepB, h44, h32])]
        simp [charsOf]

theorem all_take (l : List ByteArray) (i : Nat) (h : i < l.length) : allOf (l.take (i + 1)) = allOf (l.take i) ++ charsOf (txt l[i]) ++ marks := by
  rw [List.take_succ_eq_append_getElem h]
  unfold allOf
  rw [List.flatMap_append, List.flatMap_singleton, List.append_assoc]
theorem want_take (l : List ByteArray) (i : Nat) (h : i < l.length) : wantOf (l.take (i + 1)) = wantOf (l.take i) ++ [⟨(txt l[i]).toArray⟩] := by
  rw [List.take_succ_eq_append_getElem h]
  unfold wantOf
  rw [List.map_append]
  rfl
theorem run_end (l : List ByteArray) (hb : bulk l ≤ 1048576) (i : Nat) (x5 : Int) : ∃ k, ∀ m, cowrielaw08_FieldsMarks.j1 (k + m + 1) l (allOf (l.take i)) (wantOf (l.take i)) x5 false = some true := by
  have hbt := bulk_take l i
  have hl := bulk_len (l.take i)
  have h2 := texts_run (l.take i) (by omega) (l.take i).length 0 [] (by omega) (by simp only [List.length_nil]; omega)
  rw [show ((0 : Nat) : Int) = 0 from rfl, List.drop_zero, List.nil_append] at h2
  refine ⟨(l.take i).length + 1, fun m => ?_⟩
  rw [cowrielaw08_FieldsMarks.j1, if_neg (by simp), fields_all (l.take i) (by omega)]
  simp only [Option.bind_some]
  have h3 : fields_Texts.f ((l.take i).length + 1 + m) ((l.take i).map fun s => charsOf (txt s)) = some (wantOf (l.take i)) :=
    more_rounds (g := fun k => fields_Texts.f k ((l.take i).map fun s => charsOf (txt s))) (fun k => fields_Texts.mono _ k) _ m _ h2
  rw [h3]
  simp only [Option.bind_some]
  unfold cowrieplain_SameTexts.f
  have hw : (wantOf (l.take i)).length = (l.take i).length := by simp [wantOf]
  rw [if_pos rfl, same_self (wantOf (l.take i)) (by omega) (wantOf (l.take i)).length _ 0 (by omega) (by omega) (by omega)]
  rfl

theorem run_l0 (l : List ByteArray) (hb : bulk l ≤ 1048576) : ∀ (d i : Nat), i + d = l.length → ∃ k, ∀ m, cowrielaw08_FieldsMarks.l0 (k + m) l (allOf (l.take i)) (wantOf (l.take i)) (i : Int) = some true := by
  intro d
  have hlen := bulk_len l
  induction d with
  | zero =>
    intro i hi
    obtain ⟨k, hk⟩ := run_end l hb i (i : Int)
    refine ⟨k + 1 + 1, fun m => ?_⟩
    rw [show k + 1 + 1 + m = (k + m + 1) + 1 by omega, cowrielaw08_FieldsMarks.l0, if_neg (by omega)]
    exact hk m
  | succ d ih =>
    intro i hi
    have hi' : i < l.length := by omega
    by_cases h40 : i < 40
    · obtain ⟨k, hk⟩ := ih (i + 1) (by omega)
      have hg := bulk_get l i hi'
      have hall := all_len (l.take i)
      have hbt := bulk_take l i
      have ht := txt_len l[i]
      refine ⟨k + 1 + (l[i]).size + 1 + 1, fun m => ?_⟩
      rw [show k + 1 + (l[i]).size + 1 + 1 + m = ((k + m + 1) + (l[i]).size) + 1 + 1 by omega, cowrielaw08_FieldsMarks.l0, if_pos (by omega), decide_eq_true (show (i : Int) < 40 by omega), cowrielaw08_FieldsMarks.j1, if_pos rfl]
      have h1 := run_l1 l (wantOf (l.take i)) i hi' (by omega) (l[i]).size 0 (k + m + 1) (allOf (l.take i)) [] (by omega) (by omega) (by simp only [List.length_nil]; omega)
      rw [show ((0 : Nat) : Int) = 0 from rfl, List.drop_zero, List.nil_append] at h1
      refine Eq.trans h1 ?_
      rw [cowrielaw08_FieldsMarks.l1, if_pos (by omega), if_pos (by omega), rd_of l i hi', if_neg (by omega)]
      have hwl : (wantOf (l.take i)).length < 8796093022208 := by
        simp only [wantOf, List.length_map, List.length_take]
        omega
      rw [if_pos hwl]
      simp only [Option.bind_some]
      have hcl : (charsOf (List.filter keepB l[i].data.toList)).length ≤ 1048576 := by
        have : (charsOf (List.filter keepB l[i].data.toList)).length = (txt l[i]).length := by simp [charsOf, txt]
        omega
      rw [if_pos (by rw [List.length_append]; simp only [List.length_cons, List.length_nil]; omega), wrap_in (i : Int) l.length (by omega) (by omega) (by omega)]
      have := hk m
      rw [all_take l i hi', want_take l i hi'] at this
      exact this
    · obtain ⟨k, hk⟩ := run_end l hb i (i : Int)
      refine ⟨k + 1 + 1, fun m => ?_⟩
      rw [show k + 1 + 1 + m = (k + m + 1) + 1 by omega, cowrielaw08_FieldsMarks.l0, if_pos (by omega), decide_eq_false (show ¬ (i : Int) < 40 by omega)]
      exact hk m

theorem FieldsMarks (l : List ByteArray) (hb : (l.map fun y0 => y0.size + 1).sum ≤ 1048576) : ∃ k, cowrielaw08_FieldsMarks.f k l = some true := by
  obtain ⟨k, hk⟩ := run_l0 l hb l.length 0 (by omega)
  refine ⟨k, ?_⟩
  unfold cowrielaw08_FieldsMarks.f
  rw [alive_ok]
  simp only [Option.bind_some, if_true]
  exact hk 0

end Go.Proofs.Ytfmfncknpifjcaa.PureM

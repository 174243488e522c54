/- Proved: the law FieldsJoin over rows of pieces and texts alone: the fields' octets, one field after another, are the octets that cut nothing; for rows whose bulk is at most 1048576. -/
import Derived.Test.YtfmfncknpifjcaaP10
import Derived.Test.YtfmfncknpifjcaaPureQuoted
import Derived.Test.YtfmfncknpifjcaaOpens
import Derived.Lib.IndexLaws
namespace Go.Proofs.Ytfmfncknpifjcaa.PureF
open Go.RowKit Go.Proofs.Ytfmfncknpifjcaa.Ext Go.Proofs.Ytfmfncknpifjcaa.P Go.Proofs.YtfmfncknpifjcaaW.PrintWords

def cut (ifs : ByteArray) (split : Bool) (c : S24) : Bool := decide (split = true ∧ c.f1 = false ∧ 0 ≤ Lib.indexByte ifs.data.toList (UInt8.ofNat c.f0.toNat))
def flat (s : PS) : List S24 := s.out.flatten ++ s.now
def Inv (s : PS) : Prop := s.op = false → s.now = []
theorem flat_end (b : Bool) (s : PS) : flat (pEnd b s) = flat s ∧ Inv (pEnd b s) := ⟨by simp [flat, pEnd], fun _ => rfl⟩
theorem flat_begin (s : PS) : flat (pBegin s) = flat s ∧ Inv (pBegin s) := ⟨rfl, fun h => by cases h⟩
theorem flat_mark (b : Bool) (s : PS) (h : Inv s) : flat (pMark b s) = flat s ∧ Inv (pMark b s) := by
  unfold pMark
  split
  · exact flat_end b s
  · split
    · exact ⟨rfl, h⟩
    · split
      · exact ⟨rfl, h⟩
      · exact flat_end false s
theorem flat_char (ifs : ByteArray) (b : Bool) (s : PS) (c : S24) (h : Inv s) : flat (pChar ifs b s c) = flat s ++ (if cut ifs b c then [] else [c]) ∧ Inv (pChar ifs b s c) := by
  unfold pChar cut
  split
  · next hc =>
    obtain ⟨h1, h2⟩ := flat_mark (decide (0 ≤ Lib.indexByte [32, 9, 10] (UInt8.ofNat c.f0.toNat))) s h
    rw [if_pos (decide_eq_true hc)]
    exact ⟨by rw [h1]; simp, h2⟩
  · next hc =>
    rw [if_neg (by simpa using hc)]
    exact ⟨by simp [flat, pBegin], fun h => by cases h⟩
theorem flat_chars (ifs : ByteArray) (b : Bool) : ∀ (l : List S24) (s : PS), Inv s → flat (l.foldl (pChar ifs b) s) = flat s ++ l.filter (fun c => !cut ifs b c) ∧ Inv (l.foldl (pChar ifs b) s)
  | [], s, h => ⟨by simp, h⟩
  | c :: l, s, h => by
    obtain ⟨h1, h2⟩ := flat_char ifs b s c h
    obtain ⟨h3, h4⟩ := flat_chars ifs b l _ h2
    refine ⟨?_, h4⟩
    rw [List.foldl_cons, h3, h1]
    cases hc : cut ifs b c <;> simp [hc]
theorem flat_piece (ifs : ByteArray) (s : PS) (p : S28) (h : Inv s) : flat (pPiece ifs s p) = flat s ++ p.f0.filter (fun c => !cut ifs p.f1 c) ∧ Inv (pPiece ifs s p) := by
  unfold pPiece
  have h1 : flat (if p.f2 then pBegin s else s) = flat s ∧ Inv (if p.f2 then pBegin s else s) := by
    split
    · exact flat_begin s
    · exact ⟨rfl, h⟩
  obtain ⟨h2, h3⟩ := flat_chars ifs p.f1 p.f0 _ h1.2
  rw [h1.1] at h2
  simp only []
  split
  · obtain ⟨h4, h5⟩ := flat_end false (p.f0.foldl (pChar ifs p.f1) (if p.f2 then pBegin s else s))
    exact ⟨h4.trans h2, h5⟩
  · exact ⟨h2, h3⟩
def kept (ifs : ByteArray) (l : List S28) : List S24 := l.flatMap fun p => p.f0.filter (fun c => !cut ifs p.f1 c)
theorem flat_all (ifs : ByteArray) : ∀ (l : List S28) (s : PS), Inv s → flat (l.foldl (pPiece ifs) s) = flat s ++ kept ifs l ∧ Inv (l.foldl (pPiece ifs) s)
  | [], s, h => ⟨by simp [kept], h⟩
  | p :: l, s, h => by
    obtain ⟨h1, h2⟩ := flat_piece ifs s p h
    obtain ⟨h3, h4⟩ := flat_all ifs l _ h2
    refine ⟨?_, h4⟩
    rw [List.foldl_cons, h3, h1]
    simp [kept]
/-- All the fields' octets are the octets kept. -/
theorem fields_flat (l : List S28) (ifs : ByteArray) (r : List (List S24)) (h : fields_Fields.f l ifs = some r) : r.flatten = kept ifs l := by
  unfold fields_Fields.f at h
  split at h
  · obtain ⟨h1, h2⟩ := flat_all ifs l ⟨[], [], false, false⟩ (fun _ => rfl)
    have h1' : flat (l.foldl (pPiece ifs) ⟨[], [], false, false⟩) = kept ifs l := by simpa [flat] using h1
    simp only [Option.some.injEq] at h
    subst h
    split
    · rw [← h1']
      simp [pEnd, flat]
    · next hop =>
      rw [← h1', flat, h2 (by simpa using hop), List.append_nil]
  · cases h

/-- Has the text the octet? -/
def hasB (ifs : ByteArray) (j : Nat) (v : Int) : Bool := (ifs.data.toList.drop j).any fun b => (b.toNat : Int) == v
theorem hasB_step (ifs : ByteArray) (j : Nat) (v : Int) (h : j < ifs.size) : hasB ifs j v = ((bt ifs (j : Int) == v) || hasB ifs (j + 1) v) := by
  have hl : j < ifs.data.toList.length := by simp; omega
  unfold hasB
  rw [List.drop_eq_getElem_cons hl, List.any_cons]
  congr 2
  unfold bt
  rw [Int.toNat_natCast, dif_pos h]
  rfl
theorem hasB_end (ifs : ByteArray) (v : Int) : hasB ifs ifs.size v = false := by
  unfold hasB
  rw [List.drop_of_length_le (by simp)]
  rfl
theorem hasB_index (ifs : ByteArray) (v : Int) (h0 : 0 ≤ v) (h1 : v ≤ 255) : hasB ifs 0 v = decide (0 ≤ Lib.indexByte ifs.data.toList (UInt8.ofNat v.toNat)) := by
  unfold hasB
  rw [List.drop_zero]
  generalize ifs.data.toList = l
  have hv : ∀ b : UInt8, ((b.toNat : Int) == v) = (b == UInt8.ofNat v.toNat) := by
    intro b
    rw [Bool.eq_iff_iff]
    simp only [beq_iff_eq]
    constructor
    · rintro rfl
      simp
    · rintro rfl
      have : v.toNat < 256 := by omega
      simp only [UInt8.toNat_ofNat']
      omega
  induction l with
  | nil => rfl
  | cons b l ih =>
    rw [List.any_cons, ih, hv, Lib.indexByte]
    have hg := Lib.indexByte_ge l (UInt8.ofNat v.toNat)
    cases hb : b == UInt8.ofNat v.toNat with
    | true => simp
    | false =>
      simp only [Bool.false_or, Bool.false_eq_true, if_false]
      rw [decide_eq_decide]
      split
      · next hm =>
        have := eq_of_beq hm
        omega
      · next hm =>
        have : Lib.indexByte l (UInt8.ofNat v.toNat) ≠ -1 := fun h => hm (beq_of_eq h)
        omega

theorem run_l3 (x0 : List S35) (x1 : ByteArray) (x6 x7 : List S24) (x9 x10 v : Int) (q : Bool) (hs : x1.size ≤ 1048576) : ∀ (d j k : Nat) (fl : Bool), j + d = x1.size →
    cowrielaw08_FieldsJoin.l3 (k + d) x0 x1 x6 x7 x9 x10 fl (j : Int) v q = cowrielaw08_FieldsJoin.l3 k x0 x1 x6 x7 x9 x10 (fl || hasB x1 j v) (x1.size : Int) v q := by
  intro d
  induction d with
  | zero =>
    intro j k fl hj
    obtain rfl : j = x1.size := by omega
    rw [hasB_end, Bool.or_false, Nat.add_zero]
  | succ d ih =>
    intro j k fl hj
    rw [← Nat.add_assoc, cowrielaw08_FieldsJoin.l3, if_pos (by omega), wrap_in (j : Int) x1.size (by omega) (by omega) (by omega), if_pos (show (0 : Int) ≤ (j : Int) by omega), hasB_step x1 j v (by omega)]
    rw [show ((j : Int) + 1) = ((j + 1 : Nat) : Int) from rfl]
    cases fl with
    | true => rw [if_pos rfl, ih (j + 1) k true (by omega)]; rfl
    | false => rw [if_neg (by simp), ih (j + 1) k _ (by omega), Bool.false_or]

def keepC (ifs : ByteArray) (split : Bool) (c : S24) : Bool := !cut ifs split c
theorem rd_at (l : List S35) (i : Nat) (h : i < l.length) : rd_T35 l (i : Int) = l[i] := by
  unfold rd_T35
  rw [Int.toNat_natCast, List.getD_eq_getElem?_getD, List.getElem?_eq_getElem h]
  rfl
theorem rd_at24 (l : List S24) (i : Nat) (h : i < l.length) : rd_T24 l (i : Int) = l[i] := by
  unfold rd_T24
  rw [Int.toNat_natCast, List.getD_eq_getElem?_getD, List.getElem?_eq_getElem h]
  rfl

theorem run_l2 (x0 : List S35) (x1 : ByteArray) (x6 : List S24) (i : Nat) (hi : i < x0.length) (hs : x1.size ≤ 1048576) (hw : ∀ c ∈ (x0[i]).f0, 0 ≤ c.f0 ∧ c.f0 ≤ 255) (hl : (x0[i]).f0.length ≤ 1048576) :
    ∀ (d j k : Nat) (x7 : List S24), j + d = (x0[i]).f0.length → x7.length + d ≤ 100000000 →
      cowrielaw08_FieldsJoin.l2 (k + d * (x1.size + 2)) x0 x1 x6 x7 (i : Int) (j : Int) = cowrielaw08_FieldsJoin.l2 k x0 x1 x6 (x7 ++ ((x0[i]).f0.drop j).filter (keepC x1 (x0[i]).f1)) (i : Int) ((x0[i]).f0.length : Int) := by
  intro d
  induction d with
  | zero =>
    intro j k x7 hj hb
    obtain rfl : j = (x0[i]).f0.length := by omega
    rw [List.drop_length, Nat.zero_mul]
    simp
  | succ d ih =>
    intro j k x7 hj hb
    have hj' : j < (x0[i]).f0.length := by omega
    have hc := hw _ (List.getElem_mem hj')
    generalize hcc : (x0[i]).f0[j] = c at hc
    have e2 : k + (d + 1) * (x1.size + 2) = (k + d * (x1.size + 2)) + 1 + x1.size + 1 := by
      rw [Nat.add_mul]
      omega
    rw [e2, cowrielaw08_FieldsJoin.l2]
    simp only [rd_at x0 i hi, rd_at24 _ j hj', hcc]
    rw [if_pos (by omega), if_pos (by omega), if_pos (by omega), if_pos (by omega)]
    have h3 := run_l3 x0 x1 x6 x7 (i : Int) (j : Int) c.f0 c.f1 hs x1.size 0 ((k + d * (x1.size + 2)) + 1) false (by omega)
    rw [show ((0 : Nat) : Int) = 0 from rfl] at h3
    rw [h3, cowrielaw08_FieldsJoin.l3, if_neg (by omega), Bool.false_or, hasB_index x1 c.f0 hc.1 hc.2]
    simp only [rd_at x0 i hi]
    rw [wrap_in (j : Int) (x0[i]).f0.length (by omega) (by omega) (by omega), List.drop_eq_getElem_cons hj', hcc, show ((j : Int) + 1) = ((j + 1 : Nat) : Int) from rfl]
    have hx7 : x7.length < 70368744177664 := by omega
    rw [if_pos hx7, if_pos hx7, if_pos (show (0 : Int) ≤ (i : Int) by omega), if_pos (show (i : Int) < (x0.length : Int) by omega), if_pos hx7]
    have hkc : keepC x1 (x0[i]).f1 c = !(decide ((x0[i]).f1 = true ∧ c.f1 = false ∧ 0 ≤ Lib.indexByte x1.data.toList (UInt8.ofNat c.f0.toNat))) := rfl
    have one := ih (j + 1) k (x7 ++ [c]) (by omega) (by simp; omega)
    have two := ih (j + 1) k x7 (by omega) (by omega)
    obtain ⟨v, q⟩ := c
    by_cases hx : 0 ≤ Lib.indexByte x1.data.toList (UInt8.ofNat v.toNat)
    · rw [if_pos (decide_eq_true hx)]
      cases q with
      | true =>
        rw [if_pos rfl, one, List.filter_cons, if_pos (by rw [hkc]; simp)]
        simp
      | false =>
        rw [if_neg (by simp)]
        by_cases hsp : (x0[i]).f1 = true
        · rw [if_pos hsp, two, List.filter_cons, if_neg (by rw [hkc]; simp [hsp, hx])]
        · rw [if_neg hsp, one, List.filter_cons, if_pos (by rw [hkc]; simp [hsp])]
          simp
    · rw [if_neg (by simpa using hx), one, List.filter_cons, if_pos (by rw [hkc]; simp [hx])]
      simp

def tot35 (l : List S35) : Nat := (l.map fun p => p.f0.length + 1).sum
def as28 (p : S35) : S28 := ⟨p.f0, p.f1, p.f2, p.f3⟩
theorem tot35_drop (l : List S35) (i : Nat) (h : i < l.length) : tot35 (l.drop i) = (l[i]).f0.length + 1 + tot35 (l.drop (i + 1)) := by
  unfold tot35
  rw [List.drop_eq_getElem_cons h, List.map_cons, List.sum_cons]
theorem tot35_le (l : List S35) (i : Nat) : tot35 (l.drop i) ≤ tot35 l := by
  have := congrArg (fun x => (x.map fun p : S35 => p.f0.length + 1).sum) (List.take_append_drop i l)
  simp only [List.map_append, List.sum_append] at this
  unfold tot35
  omega
theorem tot35_len : ∀ l : List S35, l.length ≤ tot35 l
  | [] => Nat.zero_le _
  | p :: l => by
    have := tot35_len l
    unfold tot35 at this ⊢
    rw [List.map_cons, List.sum_cons, List.length_cons]
    omega
theorem kept_len (ifs : ByteArray) : ∀ l : List S35, (kept ifs (l.map as28)).length ≤ tot35 l
  | [] => Nat.zero_le _
  | p :: l => by
    have ih := kept_len ifs l
    have hf := List.length_filter_le (fun c => !cut ifs p.f1 c) p.f0
    unfold tot35 kept at *
    simp only [List.map_cons, List.flatMap_cons, List.length_append, List.sum_cons]
    have : (as28 p).f0 = p.f0 ∧ (as28 p).f1 = p.f1 := ⟨rfl, rfl⟩
    rw [this.1, this.2]
    omega

theorem run_l1 (x0 : List S35) (x1 : ByteArray) (x6 : List S24) (hs : x1.size ≤ 1048576) (ht : tot35 x0 ≤ 1048576) (hw : ∀ p ∈ x0, ∀ c ∈ p.f0, 0 ≤ c.f0 ∧ c.f0 ≤ 255) :
    ∀ (d i : Nat) (x7 : List S24), i + d = x0.length → x7.length + tot35 (x0.drop i) ≤ 3000000 → x6 = x7 ++ kept x1 ((x0.drop i).map as28) → ∃ k, cowrielaw08_FieldsJoin.l1 k x0 x1 x6 x7 (i : Int) = some true := by
  intro d
  have hlen := tot35_len x0
  induction d with
  | zero =>
    intro i x7 hi hb hx
    obtain rfl : i = x0.length := by omega
    rw [List.drop_length] at hx hb
    have hx' : x6 = x7 := by simpa [kept] using hx
    subst hx'
    refine ⟨x6.length + 1 + 1, ?_⟩
    rw [cowrielaw08_FieldsJoin.l1, if_neg (by omega)]
    unfold cowrieplain_SameChars.f
    rw [if_pos rfl, same_self x6 (by simp [tot35] at hb; omega) x6.length _ 0 (by omega) (by omega) (by omega)]
    rfl
  | succ d ih =>
    intro i x7 hi hb hx
    have hi' : i < x0.length := by omega
    have htd := tot35_drop x0 i hi'
    have htl := tot35_le x0 i
    have hfl := List.length_filter_le (keepC x1 (x0[i]).f1) (x0[i]).f0
    obtain ⟨k, hk⟩ := ih (i + 1) (x7 ++ (x0[i]).f0.filter (keepC x1 (x0[i]).f1)) (by omega) (by rw [List.length_append]; omega) (by
      rw [hx, List.drop_eq_getElem_cons hi', List.map_cons]
      simp only [kept, List.flatMap_cons, List.append_assoc]
      rfl)
    refine ⟨(k + 1 + (x0[i]).f0.length * (x1.size + 2)) + 1, ?_⟩
    rw [cowrielaw08_FieldsJoin.l1, if_pos (by omega)]
    have h2 := run_l2 x0 x1 x6 i hi' hs (hw _ (List.getElem_mem hi')) (by omega) (x0[i]).f0.length 0 (k + 1) x7 (by omega) (by omega)
    rw [show ((0 : Nat) : Int) = 0 from rfl] at h2
    rw [h2, List.drop_zero, cowrielaw08_FieldsJoin.l2, if_pos (by omega), if_pos (by omega), rd_at x0 i hi', if_neg (by omega), wrap_in (i : Int) x0.length (by omega) (by omega) (by omega)]
    exact hk

theorem rd_atL (l : List (List S24)) (i : Nat) (h : i < l.length) : rd_L3 l (i : Int) = l[i] := by
  unfold rd_L3
  rw [Int.toNat_natCast, List.getD_eq_getElem?_getD, List.getElem?_eq_getElem h]
  rfl
theorem join_l0 (x0 : List S35) (x1 : ByteArray) (x5 : List (List S24)) (hx5 : x5.length ≤ 1000000000) : ∀ (d i : Nat) (x6 : List S24), i + d = x5.length → (x6 ++ (x5.drop i).flatten).length ≤ 1000000000 →
    (∃ k, cowrielaw08_FieldsJoin.l1 k x0 x1 (x6 ++ (x5.drop i).flatten) [] 0 = some true) → ∃ k, cowrielaw08_FieldsJoin.l0 k x0 x1 x5 x6 (i : Int) = some true := by
  intro d
  induction d with
  | zero =>
    intro i x6 hi _ ⟨k, hk⟩
    obtain rfl : i = x5.length := by omega
    refine ⟨k + 1, ?_⟩
    rw [cowrielaw08_FieldsJoin.l0, if_neg (by omega)]
    simpa using hk
  | succ d ih =>
    intro i x6 hi hb hk
    have hi' : i < x5.length := by omega
    rw [List.drop_eq_getElem_cons hi', List.flatten_cons, ← List.append_assoc] at hk hb
    obtain ⟨k, hk⟩ := ih (i + 1) _ (by omega) hb hk
    refine ⟨k + 1, ?_⟩
    rw [List.length_append, List.length_append] at hb
    rw [cowrielaw08_FieldsJoin.l0, if_pos (by omega), if_pos (by omega), rd_atL x5 i hi', if_pos (by omega), wrap_in (i : Int) x5.length (by omega) (by omega) (by omega)]
    exact hk

theorem run_of (x0 : List S35) (ht : tot35 x0 ≤ 1048576) : ∀ (d i : Nat) (x3 : List S28), i + d = x0.length → x3.length + d ≤ 3000000 →
    cowrielaw08_Of.l0 (d + 1) x0 x3 (i : Int) = some (x3 ++ (x0.drop i).map as28) := by
  intro d
  have hlen := tot35_len x0
  induction d with
  | zero =>
    intro i x3 hi _
    obtain rfl : i = x0.length := by omega
    rw [cowrielaw08_Of.l0, if_neg (by omega), List.drop_length]
    simp
  | succ d ih =>
    intro i x3 hi hb
    have hi' : i < x0.length := by omega
    have htd := tot35_drop x0 i hi'
    have htl := tot35_le x0 i
    rw [cowrielaw08_Of.l0, if_pos (by omega), if_pos (by omega), rd_at x0 i hi']
    unfold cowrieplain_CopyChars.f
    rw [if_pos (by simp; omega)]
    simp only [Option.bind_some]
    rw [if_pos (by omega), wrap_in (i : Int) x0.length (by omega) (by omega) (by omega)]
    have := ih (i + 1) (x3 ++ [as28 (x0[i])]) (by omega) (by simp; omega)
    rw [show ((i + 1 : Nat) : Int) = (i : Int) + 1 from rfl] at this
    rw [List.drop_eq_getElem_cons hi', List.map_cons]
    simp only [List.nil_append]
    refine Eq.trans this ?_
    simp

theorem tot_as (l : List S35) : tot (l.map as28) = tot35 l := by
  unfold tot tot35
  rw [List.map_map]
  rfl

theorem FieldsJoin (l0 : List S35) (a1 : ByteArray) (hs : a1.size ≤ 1048576) (ht : tot35 l0 ≤ 1048576) (hw : ∀ p ∈ l0, ∀ c ∈ p.f0, 0 ≤ c.f0 ∧ c.f0 ≤ 255) : ∃ k, cowrielaw08_FieldsJoin.f k l0 a1 = some true := by
  have hlen := tot35_len l0
  have hof := run_of l0 ht l0.length 0 [] (by omega) (by simp; omega)
  rw [show ((0 : Nat) : Int) = 0 from rfl, List.drop_zero, List.nil_append] at hof
  obtain ⟨r, hr⟩ : ∃ r, fields_Fields.f (l0.map as28) a1 = some r := by
    unfold fields_Fields.f
    rw [if_pos (by rw [tot_as]; omega)]
    exact ⟨_, rfl⟩
  have hrf := fields_flat _ _ _ hr
  have hkl := kept_len a1 l0
  have hrl : r.length ≤ 1000000000 := by
    unfold fields_Fields.f at hr
    split at hr
    · next hh =>
      have hp := (pAll_out a1 (l0.map as28) ⟨[], [], false, false⟩).1
      simp only [Option.some.injEq] at hr
      subst hr
      simp only [List.length_nil, Nat.zero_add] at hp
      split
      · simp only [pEnd, List.length_append, List.length_singleton]
        omega
      · omega
    · cases hr
  obtain ⟨k, hk⟩ := join_l0 l0 a1 r hrl r.length 0 [] (by omega) (by rw [List.drop_zero, List.nil_append, hrf]; omega) (by
    rw [List.drop_zero, List.nil_append, hrf]
    have := run_l1 l0 a1 (kept a1 (l0.map as28)) hs ht hw l0.length 0 [] (by omega) (by rw [List.drop_zero]; simp; omega) (by rw [List.drop_zero, List.nil_append])
    exact this)
  refine ⟨k + (l0.length + 1), ?_⟩
  unfold cowrielaw08_FieldsJoin.f
  rw [alive_ok]
  simp only [Option.bind_some, if_true]
  have h1 : cowrielaw08_Of.f (k + (l0.length + 1)) l0 = some (l0.map as28) := by
    rw [Nat.add_comm]
    exact more_rounds (g := fun k => cowrielaw08_Of.f k l0) (fun k => cowrielaw08_Of.mono l0 k) (l0.length + 1) k _ hof
  rw [h1]
  simp only [Option.bind_some]
  rw [hr]
  simp only [Option.bind_some]
  exact more_rounds (g := fun k => cowrielaw08_FieldsJoin.l0 k l0 a1 r [] 0) (fun k => (cowrielaw08_FieldsJoin.mono_l k).1 _ _ _ _ _) k (l0.length + 1) _ hk

theorem sz24_sum : ∀ l : List S24, (l.map fun y0 => szS24 y0).sum = 3 * l.length
  | [] => rfl
  | c :: l => by
    have := sz24_sum l
    rw [List.map_cons, List.sum_cons, List.length_cons, this]
    simp only [szS24]
    omega
theorem tot35_bulk : ∀ l : List S35, tot35 l ≤ (l.map fun y0 => szS35 y0).sum
  | [] => Nat.le_refl _
  | p :: l => by
    have := tot35_bulk l
    have h2 := sz24_sum p.f0
    unfold tot35 at this ⊢
    rw [List.map_cons, List.sum_cons, List.map_cons, List.sum_cons]
    have h3 : szS35 p = (p.f0.map fun y0 => szS24 y0).sum + 1 + (1 + (1 + 1)) + 1 := rfl
    omega
theorem wf_chars (l : List S35) (h : ∀ y0 ∈ l, wfS35 y0) : ∀ p ∈ l, ∀ c ∈ p.f0, 0 ≤ c.f0 ∧ c.f0 ≤ 255 := by
  intro p hp c hc
  have h1 : (Lit.int .u8 c.f0).wf = true := ((h p hp).1 c hc).1
  simp [Lit.wf, IntKind.min, IntKind.max, IntKind.signed, IntKind.bits] at h1
  omega
theorem FieldsJoinU (l0 : List S35) (a1 : ByteArray) (hw : ∀ y0 ∈ l0, wfS35 y0) (hs : a1.size ≤ 1048576) (ht : (l0.map fun y0 => szS35 y0).sum ≤ 1048576) : ∃ k, cowrielaw08_FieldsJoin.f k l0 a1 = some true :=
  FieldsJoin l0 a1 hs (Nat.le_trans (tot35_bulk l0) ht) (wf_chars l0 hw)

end Go.Proofs.Ytfmfncknpifjcaa.PureF

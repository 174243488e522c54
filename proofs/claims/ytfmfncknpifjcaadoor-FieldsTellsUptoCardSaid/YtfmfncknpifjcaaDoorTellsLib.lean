/- Proved: what Fields and its page's answer make of pieces, over rows alone (the plain laws of chapter 08's other seat, turned to this one). Plain Lean: no program's step. -/
import Derived.Test.YtfmfncknpifjcaaDoorP5
import Derived.Test.YtfmfncknpifjcaaDoorP51
import Derived.Test.YtfmfncknpifjcaaDoorP53
import Derived.Test.YtfmfncknpifjcaaDoorP54
import Derived.Test.YtfmfncknpifjcaaDoorP55
import Derived.Test.YtfmfncknpifjcaaDoorOpens
import Derived.Lib.IndexLaws
set_option linter.unusedVariables false
namespace Go.Proofs.YtfmfncknpifjcaaDoor.PureF
open Go.RowKit Go.Proofs.YtfmfncknpifjcaaDoor.Ext Go.Proofs.YtfmfncknpifjcaaDoor.P Go.Proofs.YtfmfncknpifjcaaDoorW.PrintWords


theorem wrap_in (i : Int) (n : Nat) (h0 : 0 ≤ i) (h : i < n) (hn : n ≤ 9223372036854775807) : wrap64 (i + 1) = i + 1 := by
  unfold wrap64
  omega

/-- SameChars of a list and itself. -/
theorem same_self (l : List S39) (hl : l.length ≤ 1000000000) : ∀ (d k : Nat) (i : Int), 0 ≤ i → i + d = l.length → d < k → cowrieplain_SameChars.l0 k l l i = some true := by
  intro d
  induction d with
  | zero =>
    intro k i h0 hd hk
    obtain ⟨k, rfl⟩ : ∃ m, k = m + 1 := ⟨k - 1, by omega⟩
    rw [cowrieplain_SameChars.l0, if_neg (by omega)]
  | succ d ih =>
    intro k i h0 hd hk
    obtain ⟨k, rfl⟩ : ∃ m, k = m + 1 := ⟨k - 1, by omega⟩
    rw [cowrieplain_SameChars.l0, if_pos (by omega), if_pos h0, if_pos (by omega), if_neg (by simp), wrap_in i l.length h0 (by omega) (by omega)]
    exact ih k (i + 1) (by omega) (by omega) (by omega)

theorem alive_ok : cowrielaw08_alive.f = some true := by
  unfold cowrielaw08_alive.f
  have h : fields_Fields.f ([(⟨[⟨97, false⟩, ⟨32, false⟩, ⟨98, false⟩], true, false, false⟩ : S42)]) ⟨#[32]⟩ = some [[⟨97, false⟩], [⟨98, false⟩]] := rfl
  rw [h]
  rfl

def quoted (s : ByteArray) (k : Nat) : List S39 := (s.data.toList.take k).map fun b => ⟨(b.toNat : Int), true⟩

theorem quoted_fold (ifs : ByteArray) : ∀ (l : List S39) (s : PS), (∀ x ∈ l, x.f1 = true) → l.foldl (pChar ifs true) s = if l = [] then s else ⟨s.out, s.now ++ l, true, false⟩
  | [], s, _ => rfl
  | c :: l, s, h => by
    have hc : c.f1 = true := h c List.mem_cons_self
    have e : pChar ifs true s c = pBegin ⟨s.out, s.now ++ [c], s.op, s.wh⟩ := if_neg (by simp [hc])
    rw [List.foldl_cons, e, quoted_fold ifs l _ fun x hx => h x (List.mem_cons_of_mem _ hx)]
    cases l with
    | nil => rfl
    | cons d l => simp [pBegin]

theorem fields_quoted (ifs : ByteArray) (l : List S39) (h : ∀ x ∈ l, x.f1 = true) (hl : l.length ≤ 100000000) : fields_Fields.f [(⟨l, true, true, false⟩ : S42)] ifs = some [l] := by
  unfold fields_Fields.f
  have ht : tot [(⟨l, true, true, false⟩ : S42)] = l.length + 1 := rfl
  rw [if_pos (by omega)]
  simp only [List.foldl_cons, List.foldl_nil, pPiece, if_true]
  rw [quoted_fold ifs l _ h]
  cases l with
  | nil => rfl
  | cons c l => rfl


def cut (ifs : ByteArray) (split : Bool) (c : S39) : Bool := decide (split = true ∧ c.f1 = false ∧ 0 ≤ Lib.indexByte ifs.data.toList (UInt8.ofNat c.f0.toNat))
def flat (s : PS) : List S39 := s.out.flatten ++ s.now
def Inv (s : PS) : Prop := s.op = false → s.now = []
theorem flat_end (b : Bool) (s : PS) : flat (pEnd b s) = flat s ∧ Inv (pEnd b s) := ⟨by simp [flat, pEnd], fun _ => rfl⟩
theorem flat_begin (s : PS) : flat (pBegin s) = flat s ∧ Inv (pBegin s) := ⟨rfl, fun h => by cases h⟩
theorem flat_mark (b : Bool) (s : PS) (h : Inv s) : flat (pMark b s) = flat s ∧ Inv (pMark b s) := by
  unfold pMark
  split
  · exact flat_end b s
  · split
    · exact ⟨rfl, h⟩
    · split
      · exact ⟨rfl, h⟩
      · exact flat_end false s
theorem flat_char (ifs : ByteArray) (b : Bool) (s : PS) (c : S39) (h : Inv s) : flat (pChar ifs b s c) = flat s ++ (if cut ifs b c then [] else [c]) ∧ Inv (pChar ifs b s c) := by
  unfold pChar cut
  split
  · next hc =>
    obtain ⟨h1, h2⟩ := flat_mark (decide (0 ≤ Lib.indexByte [32, 9, 10] (UInt8.ofNat c.f0.toNat))) s h
    rw [if_pos (decide_eq_true hc)]
    exact ⟨by rw [h1]; simp, h2⟩
  · next hc =>
    rw [if_neg (by simpa using hc)]
    exact ⟨by simp [flat, pBegin], fun h => by cases h⟩
theorem flat_chars (ifs : ByteArray) (b : Bool) : ∀ (l : List S39) (s : PS), Inv s → flat (l.foldl (pChar ifs b) s) = flat s ++ l.filter (fun c => !cut ifs b c) ∧ Inv (l.foldl (pChar ifs b) s)
  | [], s, h => ⟨by simp, h⟩
  | c :: l, s, h => by
    obtain ⟨h1, h2⟩ := flat_char ifs b s c h
    obtain ⟨h3, h4⟩ := flat_chars ifs b l _ h2
    refine ⟨?_, h4⟩
    rw [List.foldl_cons, h3, h1]
    cases hc : cut ifs b c <;> simp [hc]
theorem flat_piece (ifs : ByteArray) (s : PS) (p : S42) (h : Inv s) : flat (pPiece ifs s p) = flat s ++ p.f0.filter (fun c => !cut ifs p.f1 c) ∧ Inv (pPiece ifs s p) := by
  unfold pPiece
  have h1 : flat (if p.f2 then pBegin s else s) = flat s ∧ Inv (if p.f2 then pBegin s else s) := by
    split
    · exact flat_begin s
    · exact ⟨rfl, h⟩
  obtain ⟨h2, h3⟩ := flat_chars ifs p.f1 p.f0 _ h1.2
  rw [h1.1] at h2
  simp only []
  split
  · obtain ⟨h4, h5⟩ := flat_end false (p.f0.foldl (pChar ifs p.f1) (if p.f2 then pBegin s else s))
    exact ⟨h4.trans h2, h5⟩
  · exact ⟨h2, h3⟩
def kept (ifs : ByteArray) (l : List S42) : List S39 := l.flatMap fun p => p.f0.filter (fun c => !cut ifs p.f1 c)
theorem flat_all (ifs : ByteArray) : ∀ (l : List S42) (s : PS), Inv s → flat (l.foldl (pPiece ifs) s) = flat s ++ kept ifs l ∧ Inv (l.foldl (pPiece ifs) s)
  | [], s, h => ⟨by simp [kept], h⟩
  | p :: l, s, h => by
    obtain ⟨h1, h2⟩ := flat_piece ifs s p h
    obtain ⟨h3, h4⟩ := flat_all ifs l _ h2
    refine ⟨?_, h4⟩
    rw [List.foldl_cons, h3, h1]
    simp [kept]
/-- All the fields' octets are the octets kept. -/
theorem fields_flat (l : List S42) (ifs : ByteArray) (r : List (List S39)) (h : fields_Fields.f l ifs = some r) : r.flatten = kept ifs l := by
  unfold fields_Fields.f at h
  split at h
  · obtain ⟨h1, h2⟩ := flat_all ifs l ⟨[], [], false, false⟩ (fun _ => rfl)
    have h1' : flat (l.foldl (pPiece ifs) ⟨[], [], false, false⟩) = kept ifs l := by simpa [flat] using h1
    simp only [Option.some.injEq] at h
    subst h
    split
    · rw [← h1']
      simp [pEnd, flat]
    · next hop =>
      rw [← h1', flat, h2 (by simpa using hop), List.append_nil]
  · cases h

/-- Has the text the octet? -/
def hasB (ifs : ByteArray) (j : Nat) (v : Int) : Bool := (ifs.data.toList.drop j).any fun b => (b.toNat : Int) == v
theorem hasB_step (ifs : ByteArray) (j : Nat) (v : Int) (h : j < ifs.size) : hasB ifs j v = ((bt ifs (j : Int) == v) || hasB ifs (j + 1) v) := by
  have hl : j < ifs.data.toList.length := by simp; omega
  unfold hasB
  rw [List.drop_eq_getElem_cons hl, List.any_cons]
  congr 2
  unfold bt
  rw [Int.toNat_natCast, dif_pos h]
  rfl
theorem hasB_end (ifs : ByteArray) (v : Int) : hasB ifs ifs.size v = false := by
  unfold hasB
  rw [List.drop_of_length_le (by simp)]
  rfl
theorem hasB_index (ifs : ByteArray) (v : Int) (h0 : 0 ≤ v) (h1 : v ≤ 255) : hasB ifs 0 v = decide (0 ≤ Lib.indexByte ifs.data.toList (UInt8.ofNat v.toNat)) := by
  unfold hasB
  rw [List.drop_zero]
  generalize ifs.data.toList = l
  have hv : ∀ b : UInt8, ((b.toNat : Int) == v) = (b == UInt8.ofNat v.toNat) := by
    intro b
    rw [Bool.eq_iff_iff]
    simp only [beq_iff_eq]
    constructor
    · rintro rfl
      simp
    · rintro rfl
      have : v.toNat < 256 := by omega
      simp only [UInt8.toNat_ofNat']
      omega
  induction l with
  | nil => rfl
  | cons b l ih =>
    rw [List.any_cons, ih, hv, Lib.indexByte]
    have hg := Lib.indexByte_ge l (UInt8.ofNat v.toNat)
    cases hb : b == UInt8.ofNat v.toNat with
    | true => simp
    | false =>
      simp only [Bool.false_or, Bool.false_eq_true, if_false]
      rw [decide_eq_decide]
      split
      · next hm =>
        have := eq_of_beq hm
        omega
      · next hm =>
        have : Lib.indexByte l (UInt8.ofNat v.toNat) ≠ -1 := fun h => hm (beq_of_eq h)
        omega

def keepC (ifs : ByteArray) (split : Bool) (c : S39) : Bool := !cut ifs split c
theorem rd_at (l : List S53) (i : Nat) (h : i < l.length) : rd_T53 l (i : Int) = l[i] := by
  unfold rd_T53
  rw [Int.toNat_natCast, List.getD_eq_getElem?_getD, List.getElem?_eq_getElem h]
  rfl
theorem rd_at24 (l : List S39) (i : Nat) (h : i < l.length) : rd_T39 l (i : Int) = l[i] := by
  unfold rd_T39
  rw [Int.toNat_natCast, List.getD_eq_getElem?_getD, List.getElem?_eq_getElem h]
  rfl

def tot35 (l : List S53) : Nat := (l.map fun p => p.f0.length + 1).sum
def as28 (p : S53) : S42 := ⟨p.f0, p.f1, p.f2, p.f3⟩
theorem tot35_drop (l : List S53) (i : Nat) (h : i < l.length) : tot35 (l.drop i) = (l[i]).f0.length + 1 + tot35 (l.drop (i + 1)) := by
  unfold tot35
  rw [List.drop_eq_getElem_cons h, List.map_cons, List.sum_cons]
theorem tot35_le (l : List S53) (i : Nat) : tot35 (l.drop i) ≤ tot35 l := by
  have := congrArg (fun x => (x.map fun p : S53 => p.f0.length + 1).sum) (List.take_append_drop i l)
  simp only [List.map_append, List.sum_append] at this
  unfold tot35
  omega
theorem tot35_len : ∀ l : List S53, l.length ≤ tot35 l
  | [] => Nat.zero_le _
  | p :: l => by
    have := tot35_len l
    unfold tot35 at this ⊢
    rw [List.map_cons, List.sum_cons, List.length_cons]
    omega
theorem kept_len (ifs : ByteArray) : ∀ l : List S53, (kept ifs (l.map as28)).length ≤ tot35 l
  | [] => Nat.zero_le _
  | p :: l => by
    have ih := kept_len ifs l
    have hf := List.length_filter_le (fun c => !cut ifs p.f1 c) p.f0
    unfold tot35 kept at *
    simp only [List.map_cons, List.flatMap_cons, List.length_append, List.sum_cons]
    have : (as28 p).f0 = p.f0 ∧ (as28 p).f1 = p.f1 := ⟨rfl, rfl⟩
    rw [this.1, this.2]
    omega

theorem rd_atL (l : List (List S39)) (i : Nat) (h : i < l.length) : rd_L3 l (i : Int) = l[i] := by
  unfold rd_L3
  rw [Int.toNat_natCast, List.getD_eq_getElem?_getD, List.getElem?_eq_getElem h]
  rfl
theorem run_of (x0 : List S53) (ht : tot35 x0 ≤ 1048576) : ∀ (d i : Nat) (x3 : List S42), i + d = x0.length → x3.length + d ≤ 3000000 →
    cowrielaw08_Of.l0 (d + 1) x0 x3 (i : Int) = some (x3 ++ (x0.drop i).map as28) := by
  intro d
  have hlen := tot35_len x0
  induction d with
  | zero =>
    intro i x3 hi _
    obtain rfl : i = x0.length := by omega
    rw [cowrielaw08_Of.l0, if_neg (by omega), List.drop_length]
    simp
  | succ d ih =>
    intro i x3 hi hb
    have hi' : i < x0.length := by omega
    have htd := tot35_drop x0 i hi'
    have htl := tot35_le x0 i
    rw [cowrielaw08_Of.l0, if_pos (by omega), if_pos (by omega), rd_at x0 i hi']
    unfold cowrieplain_CopyChars.f
    rw [if_pos (by simp; omega)]
    simp only [Option.bind_some]
    rw [if_pos (by omega), wrap_in (i : Int) x0.length (by omega) (by omega) (by omega)]
    have := ih (i + 1) (x3 ++ [as28 (x0[i])]) (by omega) (by simp; omega)
    rw [show ((i + 1 : Nat) : Int) = (i : Int) + 1 from rfl] at this
    rw [List.drop_eq_getElem_cons hi', List.map_cons]
    simp only [List.nil_append]
    refine Eq.trans this ?_
    simp

theorem tot_as (l : List S53) : tot (l.map as28) = tot35 l := by
  unfold tot tot35
  rw [List.map_map]
  rfl

theorem sz24_sum : ∀ l : List S39, (l.map fun y0 => szS39 y0).sum = 3 * l.length
  | [] => rfl
  | c :: l => by
    have := sz24_sum l
    rw [List.map_cons, List.sum_cons, List.length_cons, this]
    simp only [szS39]
    omega
theorem tot35_bulk : ∀ l : List S53, tot35 l ≤ (l.map fun y0 => szS53 y0).sum
  | [] => Nat.le_refl _
  | p :: l => by
    have := tot35_bulk l
    have h2 := sz24_sum p.f0
    unfold tot35 at this ⊢
    rw [List.map_cons, List.sum_cons, List.map_cons, List.sum_cons]
    have h3 : szS53 p = (p.f0.map fun y0 => szS39 y0).sum + 1 + (1 + (1 + 1)) + 1 := rfl
    omega
theorem wf_chars (l : List S53) (h : ∀ y0 ∈ l, wfS53 y0) : ∀ p ∈ l, ∀ c ∈ p.f0, 0 ≤ c.f0 ∧ c.f0 ≤ 255 := by
  intro p hp c hc
  have h1 : (Lit.int .u8 c.f0).wf = true := ((h p hp).1 c hc).1
  simp [Lit.wf, IntKind.min, IntKind.max, IntKind.signed, IntKind.bits] at h1
  omega

theorem in_run (s : ByteArray) (v : Int) (hs : s.size ≤ 1048576) : ∀ (d j k : Nat), j + d = s.size → d < k → cowrieref08_in.l0 k s v (j : Int) = some (hasB s j v) := by
  intro d
  induction d with
  | zero =>
    intro j k hj hk
    obtain ⟨k, rfl⟩ : ∃ m, k = m + 1 := ⟨k - 1, by omega⟩
    obtain rfl : j = s.size := by omega
    rw [cowrieref08_in.l0, if_neg (by omega), hasB_end]
  | succ d ih =>
    intro j k hj hk
    obtain ⟨k, rfl⟩ : ∃ m, k = m + 1 := ⟨k - 1, by omega⟩
    rw [cowrieref08_in.l0, if_pos (by omega), if_pos (by omega), hasB_step s j v (by omega), wrap_in (j : Int) s.size (by omega) (by omega) (by omega)]
    by_cases h : bt s (j : Int) = v
    · rw [if_pos h, beq_of_eq h, Bool.true_or]
    · rw [if_neg h, beq_eq_false_iff_ne.2 h, Bool.false_or, show ((j : Int) + 1) = ((j + 1 : Nat) : Int) from rfl]
      exact ih (j + 1) k (by omega) (by omega)
theorem in_ok (s : ByteArray) (v : Int) (hs : s.size ≤ 1048576) (h0 : 0 ≤ v) (h1 : v ≤ 255) (k : Nat) (hk : s.size < k) : cowrieref08_in.f k s v = some (decide (0 ≤ Lib.indexByte s.data.toList (UInt8.ofNat v.toNat))) := by
  unfold cowrieref08_in.f
  rw [← hasB_index s v h0 h1]
  exact in_run s v hs s.size 0 k (by omega) hk

theorem blank_of (v : Int) (h0 : 0 ≤ v) (h1 : v ≤ 255) : decide (0 ≤ Lib.indexByte [32, 9, 10] (UInt8.ofNat v.toNat)) = ((v == 32) || ((v == 9) || (v == 10))) := by
  have := hasB_index (⟨#[32, 9, 10]⟩ : ByteArray) v h0 h1
  rw [show (⟨#[32, 9, 10]⟩ : ByteArray).data.toList = [32, 9, 10] from rfl] at this
  rw [← this]
  unfold hasB
  rw [show (⟨#[32, 9, 10]⟩ : ByteArray).data.toList.drop 0 = [32, 9, 10] from rfl]
  simp only [List.any_cons, List.any_nil, Bool.or_false]
  have c : ∀ n : Int, (n == v) = (v == n) := fun n => Bool.eq_iff_iff.2 (by simp only [beq_iff_eq]; exact eq_comm)
  rw [show ((32 : UInt8).toNat : Int) = 32 from rfl, show ((9 : UInt8).toNat : Int) = 9 from rfl, show ((10 : UInt8).toNat : Int) = 10 from rfl, c, c, c]

/-- One octet. -/
theorem ref_char (x0 : List S53) (x1 : ByteArray) (i j : Int) (n : Nat) (hj0 : 0 ≤ j) (hj : j < n) (hn : n ≤ 1048576) (split : Bool) (s : PS) (v : Int) (q : Bool) (hv0 : 0 ≤ v) (hv1 : v ≤ 255) (hi : Inv s) (h1 : s.out.length ≤ 100000000) (h2 : s.now.length ≤ 100000000) (k : Nat) :
    cowrieref08_Fields.j3 (k + 2) x0 x1 s.out s.now s.op s.wh i j (decide (split = true ∧ q = false ∧ 0 ≤ Lib.indexByte x1.data.toList (UInt8.ofNat v.toNat))) v q =
      cowrieref08_Fields.l1 k x0 x1 (pChar x1 split s ⟨v, q⟩).out (pChar x1 split s ⟨v, q⟩).now (pChar x1 split s ⟨v, q⟩).op (pChar x1 split s ⟨v, q⟩).wh i (j + 1) := by
  have hb := blank_of v hv0 hv1
  have hj4 : ∀ c : Bool, cowrieref08_Fields.j3 (k + 2) x0 x1 s.out s.now s.op s.wh i j c v q = cowrieref08_Fields.j4 (k + 1) x0 x1 s.out s.now s.op s.wh i j c (decide (0 ≤ Lib.indexByte [32, 9, 10] (UInt8.ofNat v.toNat))) v q := by
    intro c
    rw [hb, cowrieref08_Fields.j3]
    by_cases e1 : v = 32
    · rw [if_pos e1, e1]
      rfl
    · rw [if_neg e1]
      by_cases e2 : v = 9
      · rw [if_pos e2, e2]
        rfl
      · rw [if_neg e2, beq_eq_false_iff_ne.2 e1, beq_eq_false_iff_ne.2 e2, Bool.false_or, Bool.false_or]
  rw [hj4, cowrieref08_Fields.j4, wrap_in j n hj0 hj (by omega)]
  unfold pChar
  generalize decide (0 ≤ Lib.indexByte [32, 9, 10] (UInt8.ofNat v.toNat)) = blank
  obtain ⟨out, now, op, wh⟩ := s
  simp only at h1 h2
  by_cases hc : split = true ∧ q = false ∧ 0 ≤ Lib.indexByte x1.data.toList (UInt8.ofNat v.toNat)
  · rw [if_pos (decide_eq_true hc), if_pos (show split = true ∧ (⟨v, q⟩ : S39).f1 = false ∧ _ from hc)]
    unfold pMark
    cases op with
    | true =>
      rw [if_pos rfl, if_pos (show out.length < 5864062014805 by omega)]
      rfl
    | false =>
      have hnow : now = [] := hi rfl
      subst hnow
      rw [if_neg (by simp)]
      cases blank with
      | true => rfl
      | false =>
        cases wh with
        | true => rfl
        | false =>
          rw [if_neg (by simp), if_neg (by simp), if_pos (show out.length < 5864062014805 by omega)]
          rfl
  · rw [if_neg (by simpa using hc), if_neg (show ¬ (split = true ∧ (⟨v, q⟩ : S39).f1 = false ∧ _) from hc), if_pos (show now.length < 70368744177664 by omega)]
    rfl

theorem ref_l1 (x0 : List S53) (x1 : ByteArray) (i : Nat) (hi : i < x0.length) (hs : x1.size ≤ 1048576) (hw : ∀ c ∈ (x0[i]).f0, 0 ≤ c.f0 ∧ c.f0 ≤ 255) (hl : (x0[i]).f0.length ≤ 1048576) :
    ∀ (d j k : Nat) (s : PS), j + d = (x0[i]).f0.length → x1.size < k → Inv s → s.out.length + d ≤ 10000000 → s.now.length + d ≤ 10000000 →
      ∃ s', ((x0[i]).f0.drop j).foldl (pChar x1 (x0[i]).f1) s = s' ∧
      cowrieref08_Fields.l1 (k + 3 * d) x0 x1 s.out s.now s.op s.wh (i : Int) (j : Int) = cowrieref08_Fields.l1 k x0 x1 s'.out s'.now s'.op s'.wh (i : Int) ((x0[i]).f0.length : Int) := by
  intro d
  induction d with
  | zero =>
    intro j k s hj hk hin _ _
    obtain rfl : j = (x0[i]).f0.length := by omega
    exact ⟨s, by rw [List.drop_length]; rfl, rfl⟩
  | succ d ih =>
    intro j k s hj hk hin ho hn
    have hj' : j < (x0[i]).f0.length := by omega
    have hc := hw _ (List.getElem_mem hj')
    have hstep : ((x0[i]).f0.drop j).foldl (pChar x1 (x0[i]).f1) s = ((x0[i]).f0.drop (j + 1)).foldl (pChar x1 (x0[i]).f1) (pChar x1 (x0[i]).f1 s (x0[i]).f0[j]) := by
      rw [List.drop_eq_getElem_cons hj', List.foldl_cons]
    have hout := pChar_out x1 (x0[i]).f1 s (x0[i]).f0[j]
    have hinv := (flat_char x1 (x0[i]).f1 s (x0[i]).f0[j] hin).2
    obtain ⟨s', h1, h2⟩ := ih (j + 1) k _ (by omega) hk hinv (by omega) (by omega)
    refine ⟨s', hstep.trans h1, ?_⟩
    rw [← h2]
    generalize hcc : (x0[i]).f0[j] = c at hc
    have hr := ref_char x0 x1 (i : Int) (j : Int) (x0[i]).f0.length (by omega) (by omega) hl (x0[i]).f1 s c.f0 c.f1 hc.1 hc.2 hin (by omega) (by omega) (k + 3 * d)
    rw [show ((j + 1 : Nat) : Int) = (j : Int) + 1 from rfl]
    refine Eq.trans ?_ hr
    rw [show k + 3 * (d + 1) = (k + 3 * d + 2) + 1 by omega, cowrieref08_Fields.l1]
    simp only [rd_at x0 i hi, rd_at24 _ j hj', hcc]
    rw [if_pos (by omega), if_pos (by omega), if_pos (by omega), if_pos (by omega)]
    cases hsp : (x0[i]).f1 with
    | false =>
      rw [if_neg (by simp)]
      simp
    | true =>
      rw [if_pos rfl]
      cases hq : c.f1 with
      | true =>
        rw [if_pos rfl]
        simp
      | false =>
        rw [if_neg (by simp), in_ok x1 c.f0 hs hc.1 hc.2 _ (by omega)]
        simp

def fin (s : PS) : List (List S39) := if s.op then (pEnd false s).out else s.out
theorem inv_piece (ifs : ByteArray) (s : PS) (p : S42) (h : Inv s) : Inv (pPiece ifs s p) := (flat_piece ifs s p h).2

theorem ref_l0 (x0 : List S53) (x1 : ByteArray) (hs : x1.size ≤ 1048576) (ht : tot35 x0 ≤ 1048576) (hw : ∀ p ∈ x0, ∀ c ∈ p.f0, 0 ≤ c.f0 ∧ c.f0 ≤ 255) :
    ∀ (d i : Nat) (s : PS), i + d = x0.length → Inv s → s.out.length + tot35 (x0.drop i) ≤ 3000000 → s.now.length + tot35 (x0.drop i) ≤ 3000000 →
      ∃ k, ∀ m, cowrieref08_Fields.l0 (k + m) x0 x1 s.out s.now s.op s.wh (i : Int) = some (fin (((x0.drop i).map as28).foldl (pPiece x1) s)) := by
  intro d
  have hlen := tot35_len x0
  induction d with
  | zero =>
    intro i s hi hin ho hn
    obtain rfl : i = x0.length := by omega
    refine ⟨1, fun m => ?_⟩
    rw [Nat.add_comm, cowrieref08_Fields.l0, if_neg (by omega), List.drop_length]
    rw [List.drop_length] at ho
    show _ = some (fin s)
    unfold fin
    cases hop : s.op with
    | true =>
      rw [if_pos rfl, if_pos (by omega), if_pos rfl]
      rfl
    | false => rw [if_neg (by simp), if_neg (by simp)]
  | succ d ih =>
    intro i s hi hin ho hn
    have hi' : i < x0.length := by omega
    have htd := tot35_drop x0 i hi'
    have htl := tot35_le x0 i
    have hpo := pPiece_out x1 s (as28 x0[i])
    have hpi := inv_piece x1 s (as28 x0[i]) hin
    have hf0 : (as28 x0[i]).f0 = (x0[i]).f0 := rfl
    rw [hf0] at hpo
    obtain ⟨k, hk⟩ := ih (i + 1) (pPiece x1 s (as28 x0[i])) (by omega) hpi (by omega) (by omega)
    -- the state behind 'kept'
    have hs1 : Inv (if (x0[i]).f2 then pBegin s else s) := by
      split
      · exact (flat_begin s).2
      · exact hin
    have hs1o : (if (x0[i]).f2 then pBegin s else s).out = s.out ∧ (if (x0[i]).f2 then pBegin s else s).now = s.now := by split <;> exact ⟨rfl, rfl⟩
    refine ⟨k + x1.size + 1 + 1 + 3 * (x0[i]).f0.length + 1 + 1, fun m => ?_⟩
    obtain ⟨s', e1, e2⟩ := ref_l1 x0 x1 i hi' hs (hw _ (List.getElem_mem hi')) (by omega) (x0[i]).f0.length 0 ((k + (x1.size + 1 + m)) + 1) (if (x0[i]).f2 then pBegin s else s) (by omega) (by omega) hs1 (by rw [hs1o.1]; omega) (by rw [hs1o.2]; omega)
    rw [show ((0 : Nat) : Int) = 0 from rfl] at e2
    rw [show k + x1.size + 1 + 1 + 3 * (x0[i]).f0.length + 1 + 1 + m = ((k + (x1.size + 1 + m)) + 1 + 3 * (x0[i]).f0.length) + 1 + 1 by omega, cowrieref08_Fields.l0, if_pos (by omega), if_pos (by omega), rd_at x0 i hi']
    have hj1 : ∀ K, (if (x0[i]).f2 = true then cowrieref08_Fields.j1 (K + 1) x0 x1 s.out s.now true false (i : Int) else cowrieref08_Fields.j1 (K + 1) x0 x1 s.out s.now s.op s.wh (i : Int)) =
        cowrieref08_Fields.l1 K x0 x1 (if (x0[i]).f2 then pBegin s else s).out (if (x0[i]).f2 then pBegin s else s).now (if (x0[i]).f2 then pBegin s else s).op (if (x0[i]).f2 then pBegin s else s).wh (i : Int) 0 := by
      intro K
      cases (x0[i]).f2 <;> rfl
    rw [hj1, e2, cowrieref08_Fields.l1, if_pos (by omega), if_pos (by omega), rd_at x0 i hi', if_neg (by omega), wrap_in (i : Int) x0.length (by omega) (by omega) (by omega)]
    rw [List.drop_zero] at e1
    have hpp : pPiece x1 s (as28 x0[i]) = if (x0[i]).f3 then pEnd false s' else s' := by
      unfold pPiece
      show (if (x0[i]).f3 then pEnd false ((x0[i]).f0.foldl (pChar x1 (x0[i]).f1) (if (x0[i]).f2 then pBegin s else s)) else ((x0[i]).f0.foldl (pChar x1 (x0[i]).f1) (if (x0[i]).f2 then pBegin s else s))) = _
      rw [e1]
    have hs'o : s'.out.length ≤ 100000000 := by
      have := (pFold_out x1 (x0[i]).f1 (x0[i]).f0 (if (x0[i]).f2 then pBegin s else s)).1
      rw [e1, hs1o.1] at this
      omega
    have hm := hk (x1.size + 1 + m)
    rw [List.drop_eq_getElem_cons hi', List.map_cons, List.foldl_cons, ← hm, hpp]
    cases (x0[i]).f3 with
    | true =>
      rw [if_pos rfl, if_pos (by omega)]
      rfl
    | false => rfl

theorem ref_fields (l0 : List S53) (a1 : ByteArray) (hs : a1.size ≤ 1048576) (ht : tot35 l0 ≤ 1048576) (hw : ∀ p ∈ l0, ∀ c ∈ p.f0, 0 ≤ c.f0 ∧ c.f0 ≤ 255) :
    ∃ k, ∀ m, cowrieref08_Fields.f (k + m) l0 a1 = fields_Fields.f (l0.map as28) a1 := by
  obtain ⟨k, hk⟩ := ref_l0 l0 a1 hs ht hw l0.length 0 ⟨[], [], false, false⟩ (by omega) (fun _ => rfl) (by rw [List.drop_zero]; simp only [List.length_nil]; omega) (by rw [List.drop_zero]; simp only [List.length_nil]; omega)
  refine ⟨k, fun m => ?_⟩
  have := hk m
  rw [List.drop_zero] at this
  unfold cowrieref08_Fields.f fields_Fields.f
  rw [if_pos (by rw [tot_as]; omega)]
  exact this

theorem rows_self (l : List (List S39)) (hl : l.length ≤ 1000000000) (hs : ∀ x ∈ l, x.length ≤ 2000000) : ∀ (d k i : Nat), i + d = l.length → d + 2000001 < k → cowrieplain_SameFields.l0 k l l (i : Int) = some true := by
  intro d
  induction d with
  | zero =>
    intro k i hd hk
    obtain ⟨k, rfl⟩ : ∃ m, k = m + 1 := ⟨k - 1, by omega⟩
    rw [cowrieplain_SameFields.l0, if_neg (by omega)]
  | succ d ih =>
    intro k i hd hk
    obtain ⟨k, rfl⟩ : ∃ m, k = m + 1 := ⟨k - 1, by omega⟩
    have hi : i < l.length := by omega
    have hx := hs _ (List.getElem_mem hi)
    rw [cowrieplain_SameFields.l0, if_pos (by omega), if_pos (by omega), if_pos (by omega), rd_atL l i hi]
    have h1 : cowrieplain_SameChars.f k l[i] l[i] = some true := by
      unfold cowrieplain_SameChars.f
      rw [if_pos rfl]
      exact same_self l[i] (by omega) (l[i]).length k 0 (by omega) (by omega) (by omega)
    rw [h1]
    simp only [Option.bind_some, if_true]
    rw [wrap_in (i : Int) l.length (by omega) (by omega) (by omega), show ((i : Int) + 1) = ((i + 1 : Nat) : Int) from rfl]
    exact ih k (i + 1) (by omega) (by omega)

theorem mem_flat {α : Type} : ∀ (l : List (List α)) (x : List α), x ∈ l → x.length ≤ l.flatten.length
  | y :: l, x, h => by
    rw [List.flatten_cons, List.length_append]
    rcases List.mem_cons.1 h with rfl | h
    · omega
    · have := mem_flat l x h
      omega
theorem tot35_mem : ∀ (l : List S53) (p : S53), p ∈ l → p.f0.length ≤ tot35 l
  | q :: l, p, h => by
    have e : tot35 (q :: l) = q.f0.length + 1 + tot35 l := rfl
    rcases List.mem_cons.1 h with rfl | h
    · omega
    · have := tot35_mem l p h
      omega


end Go.Proofs.YtfmfncknpifjcaaDoor.PureF

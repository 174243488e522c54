/- Proved: the reference's Fields folds the pieces as the program's does, at all rows of pieces whose bulk is at most 1048576. -/
import Derived.Test.YtfmfncknpifjcaaRefD
import Derived.Test.YtfmfncknpifjcaaPureJoin
namespace Go.Proofs.Ytfmfncknpifjcaa.PureR
open Go.RowKit Go.Proofs.Ytfmfncknpifjcaa.Ext Go.Proofs.Ytfmfncknpifjcaa.P Go.Proofs.YtfmfncknpifjcaaW.PrintWords Go.Proofs.Ytfmfncknpifjcaa.PureF

theorem in_run (s : ByteArray) (v : Int) (hs : s.size ≤ 1048576) : ∀ (d j k : Nat), j + d = s.size → d < k → cowrieref08_in.l0 k s v (j : Int) = some (hasB s j v) := by
  intro d
  induction d with
  | zero =>
    intro j k hj hk
    obtain ⟨k, rfl⟩ : ∃ m, k = m + 1 := ⟨k - 1, by omega⟩
    obtain rfl : j = s.size := by omega
    rw [cowrieref08_in.l0, if_neg (by omega), hasB_end]
  | succ d ih =>
    intro j k hj hk
    obtain ⟨k, rfl⟩ : ∃ m, k = m + 1 := ⟨k - 1, by omega⟩
    rw [cowrieref08_in.l0, if_pos (by omega), if_pos (by omega), hasB_step s j v (by omega), wrap_in (j : Int) s.size (by omega) (by omega) (by omega)]
    by_cases h : bt s (j : Int) = v
    · rw [if_pos h, beq_of_eq h, Bool.true_or]
    · rw [if_neg h, beq_eq_false_iff_ne.2 h, Bool.false_or, show ((j : Int) + 1) = ((j + 1 : Nat) : Int) from rfl]
      exact ih (j + 1) k (by omega) (by omega)
theorem in_ok (s : ByteArray) (v : Int) (hs : s.size ≤ 1048576) (h0 : 0 ≤ v) (h1 : v ≤ 255) (k : Nat) (hk : s.size < k) : cowrieref08_in.f k s v = some (decide (0 ≤ Lib.indexByte s.data.toList (UInt8.ofNat v.toNat))) := by
  unfold cowrieref08_in.f
  rw [← hasB_index s v h0 h1]
  exact in_run s v hs s.size 0 k (by omega) hk

theorem blank_of (v : Int) (h0 : 0 ≤ v) (h1 : v ≤ 255) : decide (0 ≤ Lib.indexByte [32, 9, 10] (UInt8.ofNat v.toNat)) = ((v == 32) || ((v == 9) || (v == 10))) := by
  have := hasB_index (⟨#[32, 9, 10]⟩ : ByteArray) v h0 h1
  rw [show (⟨#[32, 9, 10]⟩ : ByteArray).data.toList = [32, 9, 10] from rfl] at this
  rw [← this]
  unfold hasB
  rw [show (⟨#[32, 9, 10]⟩ : ByteArray).data.toList.drop 0 = [32, 9, 10] from rfl]
  simp only [List.any_cons, List.any_nil, Bool.or_false]
  have c : ∀ n : Int, (n == v) = (v == n) := fun n => Bool.eq_iff_iff.2 (by simp only [beq_iff_eq]; exact eq_comm)
  rw [show ((32 : UInt8).toNat : Int) = 32 from rfl, show ((9 : UInt8).toNat : Int) = 9 from rfl, show ((10 : UInt8).toNat : Int) = 10 from rfl, c, c, c]

/-- One octet. -/
theorem ref_char (x0 : List S35) (x1 : ByteArray) (i j : Int) (n : Nat) (hj0 : 0 ≤ j) (hj : j < n) (hn : n ≤ 1048576) (split : Bool) (s : PS) (v : Int) (q : Bool) (hv0 : 0 ≤ v) (hv1 : v ≤ 255) (hi : Inv s) (h1 : s.out.length ≤ 100000000) (h2 : s.now.length ≤ 100000000) (k : Nat) :
    cowrieref08_Fields.j3 (k + 2) x0 x1 s.out s.now s.op s.wh i j (decide (split = true ∧ q = false ∧ 0 ≤ Lib.indexByte x1.data.toList (UInt8.ofNat v.toNat))) v q =
      cowrieref08_Fields.l1 k x0 x1 (pChar x1 split s ⟨v, q⟩).out (pChar x1 split s ⟨v, q⟩).now (pChar x1 split s ⟨v, q⟩).op (pChar x1 split s ⟨v, q⟩).wh i (j + 1) := by
  have hb := blank_of v hv0 hv1
  have hj4 : ∀ c : Bool, cowrieref08_Fields.j3 (k + 2) x0 x1 s.out s.now s.op s.wh i j c v q = cowrieref08_Fields.j4 (k + 1) x0 x1 s.out s.now s.op s.wh i j c (decide (0 ≤ Lib.indexByte [32, 9, 10] (UInt8.ofNat v.toNat))) v q := by
    intro c
    rw [hb, cowrieref08_Fields.j3]
    by_cases e1 : v = 32
    · rw [if_pos e1, e1]
      rfl
    · rw [if_neg e1]
      by_cases e2 : v = 9
      · rw [if_pos e2, e2]
        rfl
      · rw [if_neg e2, beq_eq_false_iff_ne.2 e1, beq_eq_false_iff_ne.2 e2, Bool.false_or, Bool.false_or]
  rw [hj4, cowrieref08_Fields.j4, wrap_in j n hj0 hj (by omega)]
  unfold pChar
  generalize decide (0 ≤ Lib.indexByte [32, 9, 10] (UInt8.ofNat v.toNat)) = blank
  obtain ⟨out, now, op, wh⟩ := s
  simp only at h1 h2
  by_cases hc : split = true ∧ q = false ∧ 0 ≤ Lib.indexByte x1.data.toList (UInt8.ofNat v.toNat)
  · rw [if_pos (decide_eq_true hc), if_pos (show split = true ∧ (⟨v, q⟩ : S24).f1 = false ∧ _ from hc)]
    unfold pMark
    cases op with
    | true =>
      rw [if_pos rfl, if_pos (show out.length < 5864062014805 by omega)]
      rfl
    | false =>
      have hnow : now = [] := hi rfl
      subst hnow
      rw [if_neg (by simp)]
      cases blank with
      | true => rfl
      | false =>
        cases wh with
        | true => rfl
        | false =>
          rw [if_neg (by simp), if_neg (by simp), if_pos (show out.length < 5864062014805 by omega)]
          rfl
  · rw [if_neg (by simpa using hc), if_neg (show ¬ (split = true ∧ (⟨v, q⟩ : S24).f1 = false ∧ _) from hc), if_pos (show now.length < 70368744177664 by omega)]
    rfl

theorem ref_l1 (x0 : List S35) (x1 : ByteArray) (i : Nat) (hi : i < x0.length) (hs : x1.size ≤ 1048576) (hw : ∀ c ∈ (x0[i]).f0, 0 ≤ c.f0 ∧ c.f0 ≤ 255) (hl : (x0[i]).f0.length ≤ 1048576) :
    ∀ (d j k : Nat) (s : PS), j + d = (x0[i]).f0.length → x1.size < k → Inv s → s.out.length + d ≤ 10000000 → s.now.length + d ≤ 10000000 →
      ∃ s', ((x0[i]).f0.drop j).foldl (pChar x1 (x0[i]).f1) s = s' ∧
      cowrieref08_Fields.l1 (k + 3 * d) x0 x1 s.out s.now s.op s.wh (i : Int) (j : Int) = cowrieref08_Fields.l1 k x0 x1 s'.out s'.now s'.op s'.wh (i : Int) ((x0[i]).f0.length : Int) := by
  intro d
  induction d with
  | zero =>
    intro j k s hj hk hin _ _
    obtain rfl : j = (x0[i]).f0.length := by omega
    exact ⟨s, by rw [List.drop_length]; rfl, rfl⟩
  | succ d ih =>
    intro j k s hj hk hin ho hn
    have hj' : j < (x0[i]).f0.length := by omega
    have hc := hw _ (List.getElem_mem hj')
    have hstep : ((x0[i]).f0.drop j).foldl (pChar x1 (x0[i]).f1) s = ((x0[i]).f0.drop (j + 1)).foldl (pChar x1 (x0[i]).f1) (pChar x1 (x0[i]).f1 s (x0[i]).f0[j]) := by
      rw [List.drop_eq_getElem_cons hj', List.foldl_cons]
    have hout := pChar_out x1 (x0[i]).f1 s (x0[i]).f0[j]
    have hinv := (flat_char x1 (x0[i]).f1 s (x0[i]).f0[j] hin).2
    obtain ⟨s', h1, h2⟩ := ih (j + 1) k _ (by omega) hk hinv (by omega) (by omega)
    refine ⟨s', hstep.trans h1, ?_⟩
    rw [← h2]
    generalize hcc : (x0[i]).f0[j] = c at hc
    have hr := ref_char x0 x1 (i : Int) (j : Int) (x0[i]).f0.length (by omega) (by omega) hl (x0[i]).f1 s c.f0 c.f1 hc.1 hc.2 hin (by omega) (by omega) (k + 3 * d)
    rw [show ((j + 1 : Nat) : Int) = (j : Int) + 1 from rfl]
    refine Eq.trans ?_ hr
    rw [show k + 3 * (d + 1) = (k + 3 * d + 2) + 1 by omega, cowrieref08_Fields.l1]
    simp only [rd_at x0 i hi, rd_at24 _ j hj', hcc]
    rw [if_pos (by omega), if_pos (by omega), if_pos (by omega), if_pos (by omega)]
    cases hsp : (x0[i]).f1 with
    | false =>
      rw [if_neg (by simp)]
      simp
    | true =>
      rw [if_pos rfl]
      cases hq : c.f1 with
      | true =>
        rw [if_pos rfl]
        simp
      | false =>
        rw [if_neg (by simp), in_ok x1 c.f0 hs hc.1 hc.2 _ (by omega)]
        simp

def fin (s : PS) : List (List S24) := if s.op then (pEnd false s).out else s.out
theorem inv_piece (ifs : ByteArray) (s : PS) (p : S28) (h : Inv s) : Inv (pPiece ifs s p) := (flat_piece ifs s p h).2

theorem ref_l0 (x0 : List S35) (x1 : ByteArray) (hs : x1.size ≤ 1048576) (ht : tot35 x0 ≤ 1048576) (hw : ∀ p ∈ x0, ∀ c ∈ p.f0, 0 ≤ c.f0 ∧ c.f0 ≤ 255) :
    ∀ (d i : Nat) (s : PS), i + d = x0.length → Inv s → s.out.length + tot35 (x0.drop i) ≤ 3000000 → s.now.length + tot35 (x0.drop i) ≤ 3000000 →
      ∃ k, ∀ m, cowrieref08_Fields.l0 (k + m) x0 x1 s.out s.now s.op s.wh (i : Int) = some (fin (((x0.drop i).map as28).foldl (pPiece x1) s)) := by
  intro d
  have hlen := tot35_len x0
  induction d with
  | zero =>
    intro i s hi hin ho hn
    obtain rfl : i = x0.length := by omega
    refine ⟨1, fun m => ?_⟩
    rw [Nat.add_comm, cowrieref08_Fields.l0, if_neg (by omega), List.drop_length]
    rw [List.drop_length] at ho
    show _ = some (fin s)
    unfold fin
    cases hop : s.op with
    | true =>
      rw [if_pos rfl, if_pos (by omega), if_pos rfl]
      rfl
    | false => rw [if_neg (by simp), if_neg (by simp)]
  | succ d ih =>
    intro i s hi hin ho hn
    have hi' : i < x0.length := by omega
    have htd := tot35_drop x0 i hi'
    have htl := tot35_le x0 i
    have hpo := pPiece_out x1 s (as28 x0[i])
    have hpi := inv_piece x1 s (as28 x0[i]) hin
    have hf0 : (as28 x0[i]).f0 = (x0[i]).f0 := rfl
    rw [hf0] at hpo
    obtain ⟨k, hk⟩ := ih (i + 1) (pPiece x1 s (as28 x0[i])) (by omega) hpi (by omega) (by omega)
    -- the state behind 'kept'
    have hs1 : Inv (if (x0[i]).f2 then pBegin s else s) := by
      split
      · exact (flat_begin s).2
      · exact hin
    have hs1o : (if (x0[i]).f2 then pBegin s else s).out = s.out ∧ (if (x0[i]).f2 then pBegin s else s).now = s.now := by split <;> exact ⟨rfl, rfl⟩
    refine ⟨k + x1.size + 1 + 1 + 3 * (x0[i]).f0.length + 1 + 1, fun m => ?_⟩
    obtain ⟨s', e1, e2⟩ := ref_l1 x0 x1 i hi' hs (hw _ (List.getElem_mem hi')) (by omega) (x0[i]).f0.length 0 ((k + (x1.size + 1 + m)) + 1) (if (x0[i]).f2 then pBegin s else s) (by omega) (by omega) hs1 (by rw [hs1o.1]; omega) (by rw [hs1o.2]; omega)
    rw [show ((0 : Nat) : Int) = 0 from rfl] at e2
    rw [show k + x1.size + 1 + 1 + 3 * (x0[i]).f0.length + 1 + 1 + m = ((k + (x1.size + 1 + m)) + 1 + 3 * (x0[i]).f0.length) + 1 + 1 by omega, cowrieref08_Fields.l0, if_pos (by omega), if_pos (by omega), rd_at x0 i hi']
    have hj1 : ∀ K, (if (x0[i]).f2 = true then cowrieref08_Fields.j1 (K + 1) x0 x1 s.out s.now true false (i : Int) else cowrieref08_Fields.j1 (K + 1) x0 x1 s.out s.now s.op s.wh (i : Int)) =
        cowrieref08_Fields.l1 K x0 x1 (if (x0[i]).f2 then pBegin s else s).out (if (x0[i]).f2 then pBegin s else s).now (if (x0[i]).f2 then pBegin s else s).op (if (x0[i]).f2 then pBegin s else s).wh (i : Int) 0 := by
      intro K
      cases (x0[i]).f2 <;> rfl
    rw [hj1, e2, cowrieref08_Fields.l1, if_pos (by omega), if_pos (by omega), rd_at x0 i hi', if_neg (by omega), wrap_in (i : Int) x0.length (by omega) (by omega) (by omega)]
    rw [List.drop_zero] at e1
    have hpp : pPiece x1 s (as28 x0[i]) = if (x0[i]).f3 then pEnd false s' else s' := by
      unfold pPiece
      show (if (x0[i]).f3 then pEnd false ((x0[i]).f0.foldl (pChar x1 (x0[i]).f1) (if (x0[i]).f2 then pBegin s else s)) else ((x0[i]).f0.foldl (pChar x1 (x0[i]).f1) (if (x0[i]).f2 then pBegin s else s))) = _
      rw [e1]
    have hs'o : s'.out.length ≤ 100000000 := by
      have := (pFold_out x1 (x0[i]).f1 (x0[i]).f0 (if (x0[i]).f2 then pBegin s else s)).1
      rw [e1, hs1o.1] at this
      omega
    have hm := hk (x1.size + 1 + m)
    rw [List.drop_eq_getElem_cons hi', List.map_cons, List.foldl_cons, ← hm, hpp]
    cases (x0[i]).f3 with
    | true =>
      rw [if_pos rfl, if_pos (by omega)]
      rfl
    | false => rfl

theorem ref_fields (l0 : List S35) (a1 : ByteArray) (hs : a1.size ≤ 1048576) (ht : tot35 l0 ≤ 1048576) (hw : ∀ p ∈ l0, ∀ c ∈ p.f0, 0 ≤ c.f0 ∧ c.f0 ≤ 255) :
    ∃ k, ∀ m, cowrieref08_Fields.f (k + m) l0 a1 = fields_Fields.f (l0.map as28) a1 := by
  obtain ⟨k, hk⟩ := ref_l0 l0 a1 hs ht hw l0.length 0 ⟨[], [], false, false⟩ (by omega) (fun _ => rfl) (by rw [List.drop_zero]; simp only [List.length_nil]; omega) (by rw [List.drop_zero]; simp only [List.length_nil]; omega)
  refine ⟨k, fun m => ?_⟩
  have := hk m
  rw [List.drop_zero] at this
  unfold cowrieref08_Fields.f fields_Fields.f
  rw [if_pos (by rw [tot_as]; omega)]
  exact this

end Go.Proofs.Ytfmfncknpifjcaa.PureR

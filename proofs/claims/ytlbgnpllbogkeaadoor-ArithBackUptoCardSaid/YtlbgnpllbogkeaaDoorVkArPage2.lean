/- Proved: what the page says of expressions (whether one may be, is plain, how deep it is) is what the program says, as the print tells it. Condition: at most 2 to the 21 values and letters. Proved: cowrieref05's Check, Deep and Plain tell what the program's do, as the print tells them. Condition: at most 2 to the 21 values and letters. -/
import Derived.Test.YtlbgnpllbogkeaaDoorVkOpenSum
import Derived.Test.YtlbgnpllbogkeaaDoorVkArLawClosed
import Derived.Test.YtlbgnpllbogkeaaDoorVkP2
import Derived.Test.YtlbgnpllbogkeaaDoorVkP3
section
set_option linter.unusedVariables false
set_option linter.unusedSimpArgs false
namespace Go.Proofs.YtlbgnpllbogkeaaDoor.Ext
open Go.RowKit Go.Proofs.YtlbgnpllbogkeaaDoorW.PrintWords Go.Proofs.YtlbgnpllbogkeaaDoorW.PrintLast Go.Proofs.YtlbgnpllbogkeaaDoorW.PrintMore
mutual
/-- An expression in the print's words. -/
def toS : E → P.S25
  | .mk op nm n ks => ⟨op, nm, n, toSs ks⟩
def toSs : List E → List P.S25
  | [] => []
  | k :: ks => toS k :: toSs ks
end
theorem toSs_eq : ∀ ks, toSs ks = ks.map toS
  | [] => by rw [toSs]; rfl
  | k :: ks => by rw [toSs, toSs_eq ks]; rfl
theorem toSs_len (ks : List E) : (toSs ks).length = ks.length := by rw [toSs_eq, List.length_map]
theorem toS_f (x : E) : (toS x).f0 = x.op ∧ (toS x).f1 = x.name ∧ (toS x).f2 = x.num ∧ (toS x).f3 = toSs x.kids := by
  cases x with
  | mk op nm n ks => rw [toS]; exact ⟨rfl, rfl, rfl, rfl⟩
theorem rd_toS (ks : List E) (j : Nat) (hj : j < ks.length) : P.rd_T25 (toSs ks) (j : Int) = toS ks[j] := by
  unfold P.rd_T25
  rw [Int.toNat_natCast, List.getD_eq_getElem?_getD, toSs_eq, List.getElem?_map, List.getElem?_eq_getElem hj]
  rfl
theorem sumR_K {w : World} {ok : Nat → Prop} {x : E} {cs : List Value} (h : SumR w ok x cs) : P.k25.K w (toS x) cs := by
  induction h with
  | mk op name n kids A c f hc hm hk hl ih =>
    have hC : Kd.C P.k25 w A kids.length (toSs kids) := by
      refine ⟨toSs_len kids, hm, fun hp => ?_⟩
      obtain ⟨ad, ha, _, hcell⟩ := hl hp
      refine ⟨ad, ha, fun j p hj => ?_⟩
      rw [toSs_eq, List.getElem?_map] at hj
      cases hkj : kids[j]? with
      | none => rw [hkj] at hj; cases hj
      | some k =>
        rw [hkj] at hj
        obtain rfl := Option.some.inj hj
        have hjl := (List.getElem?_eq_some_iff.1 hkj).1
        have hlen : (f j).length = 4 := by
          obtain ⟨A1, c1, he, _⟩ := (hk j k hkj).inv
          rw [he]
          rfl
        exact ⟨f j, hlen, ih j k hkj, fun i u hu => hcell j hjl i u hu⟩
    have := P.k25_mk w (toS (.mk op name n kids)) (A3 := A) (c3 := c) (by rw [toS]; show (toSs kids).length ≤ c; rw [toSs_len]; exact hc) (by rw [toS]; show Kd.C P.k25 w A (toSs kids).length (toSs kids); rw [toSs_len]; exact hC)
    rw [toS] at this ⊢
    have e : (toSs kids).length = kids.length := toSs_len kids
    dsimp only at this
    rw [e] at this
    exact this
theorem sumR_C {w : World} {ok : Nat → Prop} {x : E} {A : Option Addr} {c : Nat} (h : SumR w ok x [.string x.op, .string x.name, .int .i64 x.num, .slice A x.kids.length c]) : Kd.C P.k25 w A (toSs x.kids).length (toSs x.kids) ∧ (toSs x.kids).length ≤ c := by
  obtain ⟨A3, c3, he, hl, hC⟩ := P.k25_open (sumR_K h)
  rw [(toS_f x).2.2.2] at he hl hC
  injection he with _ he
  injection he with _ he
  injection he with _ he
  injection he with he _
  injection he with e1 e2 e3
  subst e1
  subst e3
  exact ⟨hC, hl⟩
theorem w1n (i : Nat) (h : i < 4611686018427387904) : wrap64 ((i : Int) + 1) = ((i + 1 : Nat) : Int) := by
  unfold wrap64
  omega
theorem w1 (i : Nat) (h : i ≤ 1048577) : wrap64 ((i : Int) + 1) = ((i + 1 : Nat) : Int) := w1n i (by omega)
theorem letter_all : ∀ c : Fin 256, P.cowrieref01_letter.f ((c : Nat) : Int) = some (letterB c) := by decide +kernel
theorem digit_all : ∀ c : Fin 256, P.cowrieref01_digit.f ((c : Nat) : Int) = some (digitB c) := by decide +kernel
theorem apart_all : ∀ c : Fin 256, (letterB c && digitB c) = false := by decide +kernel
theorem letter_nat (c : UInt8) : P.cowrieref01_letter.f (c.toNat : Int) = some (letterB c.toNat) := letter_all ⟨c.toNat, c.toNat_lt⟩
theorem digit_nat (c : UInt8) : P.cowrieref01_digit.f (c.toNat : Int) = some (digitB c.toNat) := digit_all ⟨c.toNat, c.toNat_lt⟩
theorem apart_nat (c : UInt8) (h : letterB c.toNat = true) : digitB c.toNat = false := by
  have := apart_all ⟨c.toNat, c.toNat_lt⟩
  rw [h, Bool.true_and] at this
  exact this
theorem name_l0 (s : ByteArray) (hs : s.size ≤ 1048576) : ∀ (d i K : Nat), i + d = s.size → d + 1 ≤ K → 0 < i → P.cowrieref01_Name.l0 K s (i : Int) = some ((s.data.toList.drop i).all (fun c => nameP c.toNat) && decide (s.size ≤ 64))
  | 0, i, K, hd, hK, hi => by
    obtain ⟨K, rfl⟩ : ∃ k, K = k + 1 := ⟨K - 1, by omega⟩
    rw [P.cowrieref01_Name.l0, if_neg (by omega), if_pos (by omega), List.drop_of_length_le (by rw [← Lib.size_eq]; omega)]
    congr 1
    simp only [List.all_nil, Bool.true_and]
    exact decide_eq_decide.2 (by omega)
  | d + 1, i, K, hd, hK, hi => by
    obtain ⟨K, rfl⟩ : ∃ k, K = k + 1 := ⟨K - 1, by omega⟩
    have hil : i < s.data.toList.length := by rw [← Lib.size_eq]; omega
    have ih := name_l0 s hs d (i + 1) K (by omega) (by omega) (by omega)
    rw [P.cowrieref01_Name.l0, if_pos (by omega), if_pos (by omega), bt_at3 s i hil, letter_nat, digit_nat, Option.bind_some, Option.bind_some, w1 i (by omega), ih, List.drop_eq_getElem_cons hil, List.all_cons]
    unfold nameP
    generalize s.data.toList[i] = c
    cases letterB c.toNat
    · rw [if_neg Bool.false_ne_true, if_neg (by omega)]
      cases digitB c.toNat
      · rfl
      · rfl
    · rfl
theorem name_ref (s : ByteArray) (hs : s.size ≤ 1048576) (K : Nat) (hK : 1048577 ≤ K) : P.cowrieref01_Name.f K s = some (nameOf s) := by
  obtain ⟨K, rfl⟩ : ∃ k, K = k + 1 := ⟨K - 1, by omega⟩
  unfold P.cowrieref01_Name.f nameOf octets_Name.f everyB
  rw [if_pos (show s.size ≤ 1000000000 by omega), Option.getD_some]
  by_cases h0 : s.size = 0
  · rw [P.cowrieref01_Name.l0, if_neg (by omega), if_neg (by omega), decide_eq_true h0]
    simp
  · have hil : 0 < s.data.toList.length := by rw [← Lib.size_eq]; omega
    have hb := bt_at3 s 0 hil
    rw [show ((0 : Nat) : Int) = 0 from rfl] at hb
    have hl := name_l0 s hs (s.size - 1) 1 K (by omega) (by omega) (by omega)
    rw [show ((1 : Nat) : Int) = 1 from rfl] at hl
    have hg : s.data.toList.getD 0 0 = s.data.toList[0] := by rw [List.getD_eq_getElem?_getD, List.getElem?_eq_getElem hil]; rfl
    have ha : s.data.toList.all (fun c => nameP c.toNat) = (nameP s.data.toList[0].toNat && (s.data.toList.drop 1).all (fun c => nameP c.toNat)) := by
      conv => lhs; rw [← List.drop_zero (l := s.data.toList), List.drop_eq_getElem_cons hil]
      rw [List.all_cons]
    rw [P.cowrieref01_Name.l0, if_pos (by omega), if_pos (by omega), hb, letter_nat, digit_nat, Option.bind_some, Option.bind_some, show wrap64 (0 + 1) = 1 from w1 0 (by decide), hl, decide_eq_false h0, hg, ha]
    have hap := apart_nat s.data.toList[0]
    unfold nameP at *
    generalize s.data.toList[0] = c at *
    cases hlc : letterB c.toNat
    · rw [if_neg Bool.false_ne_true, if_pos rfl]
      cases digitB c.toNat <;> simp
    · rw [hap hlc, if_pos rfl]
      generalize (s.data.toList.drop 1).all _ = x
      cases x <;> simp
theorem rd_b (l : List ByteArray) (i : Nat) (h : i < l.length) : rdOf ByteArray.empty l (i : Int) = l[i] := by
  unfold rdOf
  rw [Int.toNat_natCast, List.getD_eq_getElem?_getD, List.getElem?_eq_getElem h]
  rfl
theorem in_l0 (l : List ByteArray) (s : ByteArray) (hl : l.length ≤ 1000) : ∀ (d i K : Nat), i + d = l.length → d + 1 ≤ K → P.cowrieref01_In.l0 K l s (i : Int) = some (inL (l.drop i) s)
  | 0, i, K, hd, hK => by
    obtain ⟨K, rfl⟩ : ∃ k, K = k + 1 := ⟨K - 1, by omega⟩
    rw [P.cowrieref01_In.l0, if_neg (by omega), List.drop_of_length_le (by omega)]
    rfl
  | d + 1, i, K, hd, hK => by
    obtain ⟨K, rfl⟩ : ∃ k, K = k + 1 := ⟨K - 1, by omega⟩
    have h : i < l.length := by omega
    have ih := in_l0 l s hl d (i + 1) K (by omega) (by omega)
    rw [P.cowrieref01_In.l0, if_pos (by omega), if_pos (by omega), rd_b l i h, w1n i (by omega), ih, List.drop_eq_getElem_cons h]
    unfold inL
    rw [List.any_cons]
    by_cases he : l[i] = s
    · rw [if_pos (by rw [he]), decide_eq_true he]
      rfl
    · rw [if_neg (fun e => he (ba_eq (by rw [← Lib.toList_data, ← Lib.toList_data]; exact e))), decide_eq_false he]
      rfl
theorem in_f (l : List ByteArray) (s : ByteArray) (hl : l.length ≤ 1000) (K : Nat) (hK : 1001 ≤ K) : P.cowrieref01_In.f K l s = some (inL l s) := in_l0 l s hl l.length 0 K (by omega) (by omega)
end Go.Proofs.YtlbgnpllbogkeaaDoor.Ext
end

section
set_option linter.unusedVariables false
set_option linter.unusedSimpArgs false
namespace Go.Proofs.YtlbgnpllbogkeaaDoor.Ext
open Go.RowKit Go.Proofs.YtlbgnpllbogkeaaDoorW.PrintWords Go.Proofs.YtlbgnpllbogkeaaDoorW.PrintLast Go.Proofs.YtlbgnpllbogkeaaDoorW.PrintMore
theorem mx_nat (a b : Nat) : mx (a : Int) ((b : Nat) : Int) = ((max a b : Nat) : Int) := by
  unfold mx
  split <;> omega
theorem szsE_drop (ks : List E) (j : Nat) (hj : j < ks.length) : szsE (ks.drop j) = szE ks[j] + szsE (ks.drop (j + 1)) := by
  rw [List.drop_eq_getElem_cons hj, szsE]
theorem szE_pos (x : E) : 5 ≤ szE x := by cases x; rw [szE]; omega
theorem szE_eq (x : E) : szE x = x.op.size + x.name.size + szsE x.kids + 5 := by
  cases x with
  | mk op nm n ks => rw [szE]; rfl
theorem szsE_len' (ks : List E) : 5 * ks.length ≤ szsE ks := by
  induction ks with
  | nil => simp
  | cons a ks ih =>
    rw [szsE, List.length_cons]
    have := szE_pos a
    omega
theorem wrap_dec (l : Nat) (h : l ≤ 1000) : wrap64 (((l + 1 : Nat) : Int) - 1) = (l : Int) := by unfold wrap64; omega
theorem wrap_one (d : Nat) (h : d ≤ 1000) : wrap64 (1 + ((d : Nat) : Int)) = ((1 + d : Nat) : Int) := by unfold wrap64; omega
theorem max_bound {a d l : Nat} (ha : a ≤ 1000) (hd : d ≤ l) (hl : l + 1 ≤ 1000) : max a (1 + d) ≤ 1000 := by omega
theorem page_deep (x : E) : ∀ (l K : Nat), l ≤ 1000 → szE x ≤ 1048576 → 2 * szE x ≤ K → P.cowrieref05_deep.f K x.op x.name x.num (toSs x.kids) (l : Int) = some ((deepF l x : Nat) : Int) := by
  refine E.ind (P := fun x => ∀ (l K : Nat), l ≤ 1000 → szE x ≤ 1048576 → 2 * szE x ≤ K → P.cowrieref05_deep.f K x.op x.name x.num (toSs x.kids) (l : Int) = some ((deepF l x : Nat) : Int)) (fun op nm n ks ih => ?_) x
  intro l K hl hz hK
  have hlen := szsE_len' ks
  rw [szE] at hz hK
  obtain ⟨K, rfl⟩ : ∃ k, K = k + 1 := ⟨K - 1, by omega⟩
  rw [P.cowrieref05_deep.f]
  show P.cowrieref05_deep.l0 K (l : Int) 0 0 op nm n (toSs ks) = _
  cases l with
  | zero =>
    obtain ⟨K, rfl⟩ : ∃ k, K = k + 1 := ⟨K - 1, by omega⟩
    rw [P.cowrieref05_deep.l0, deepF]
    split
    · rw [if_neg (by decide)]
      rfl
    · rfl
  | succ l =>
    have key : ∀ (d j K acc : Nat), j + d = ks.length → 2 * szsE (ks.drop j) + 1 ≤ K → acc ≤ 1000 → P.cowrieref05_deep.l0 K ((l + 1 : Nat) : Int) (acc : Int) (j : Int) op nm n (toSs ks) = some ((foldD l (ks.drop j) acc : Nat) : Int) := by
      intro d
      induction d with
      | zero =>
        intro j K acc hj hK hacc
        obtain ⟨K, rfl⟩ : ∃ k, K = k + 1 := ⟨K - 1, by omega⟩
        rw [P.cowrieref05_deep.l0, toSs_len, if_neg (by omega), List.drop_of_length_le (by omega)]
        rfl
      | succ d ihd =>
        intro j K acc hj hK hacc
        obtain ⟨K, rfl⟩ : ∃ k, K = k + 1 := ⟨K - 1, by omega⟩
        have hjl : j < ks.length := by omega
        have hsz := szsE_drop ks j hjl
        have hpos := szE_pos ks[j]
        have hle : szE ks[j] ≤ szsE ks := szsE_mem ks _ (List.getElem_mem hjl)
        have hl9 : l ≤ 1000 := Nat.le_trans (Nat.le_succ l) hl
        have k1 : szE ks[j] ≤ 1048576 := by omega
        have k2 : 2 * szE ks[j] ≤ K := by omega
        have k3 : j + 1 + d = ks.length := by omega
        have k4 : 2 * szsE (ks.drop (j + 1)) + 1 ≤ K := by omega
        have k5 : j < 4611686018427387904 := by omega
        have k6 : (j : Int) < (ks.length : Int) := by omega
        have hf := ih ks[j] (List.getElem_mem hjl) l K hl9 k1 k2
        have hd := deepF_le l ks[j]
        obtain ⟨t0, t1, t2, t3⟩ := toS_f ks[j]
        have hfd : foldD l (ks.drop j) acc = foldD l (ks.drop (j + 1)) (max acc (1 + deepF l ks[j])) := by
          rw [List.drop_eq_getElem_cons hjl]
          unfold foldD
          rw [List.foldl_cons]
        rw [P.cowrieref05_deep.l0, toSs_len, if_pos k6, if_pos (Int.natCast_pos.2 (Nat.succ_pos l)), if_pos (Int.natCast_nonneg j), rd_toS ks j hjl, t0, t1, t2, t3, hfd, w1n j k5]
        have e1 : wrap64 (((l + 1 : Nat) : Int) - 1) = (l : Int) := wrap_dec l hl9
        have e2 := wrap_one (deepF l ks[j]) (Nat.le_trans hd hl9)
        have hm := max_bound hacc hd hl
        rw [e1, hf, Option.bind_some, e2, mx_nat]
        exact ihd (j + 1) K (max acc (1 + deepF l ks[j])) k3 k4 hm
    have h9 := key ks.length 0 K 0 (by omega) (by rw [List.drop_zero]; omega) (by omega)
    rw [List.drop_zero] at h9
    have h8 : deepF (l + 1) (E.mk op nm n ks) = foldD l ks 0 := deepF_succ l _
    rw [h8, ← h9]
    rfl
theorem toList_nil {b : ByteArray} : b.toList = ([] : List UInt8) ↔ b.size = 0 := by
  rw [Lib.toList_data, Lib.size_eq]
  exact ⟨fun h => by rw [h]; rfl, fun h => List.eq_nil_of_length_eq_zero h⟩
theorem page_var (x : E) : P.cowrieref05_variable.f x.op x.name x.num (toSs x.kids) = some (isVar x) := by
  unfold P.cowrieref05_variable.f isVar
  by_cases h : x.op.size = 0
  · rw [if_pos (toList_nil.2 h), h]
    by_cases h2 : x.name.size = 0
    · rw [h2, emp_true h2]; rfl
    · rw [emp_false h2, beq_eq_false_iff_ne.2 h2]; rfl
  · rw [if_neg (fun e => h (toList_nil.1 e)), beq_eq_false_iff_ne.2 h]; rfl
theorem head_var {ks : List E} (h : 0 < ks.length) : ∀ k, ks[0]? = some k → headVar ks = isVar k := by
  intro k hk
  cases ks with
  | nil => cases hk
  | cons a b => obtain rfl := Option.some.inj hk; rfl
theorem page_single (x : E) (K : Nat) (hK : 1048600 ≤ K) (hz : szE x ≤ 1048576) : P.cowrieref05_single.f K x.op x.name x.num (toSs x.kids) = some (singleF x) := by
  have hsz := szE_eq x
  have hN := name_ref x.name (by omega) K (by omega)
  unfold P.cowrieref05_single.f
  rw [toSs_len]
  by_cases h0 : x.op.size = 0
  · rw [if_pos (toList_nil.2 h0), single_leaf h0, hN]
    by_cases h1 : x.kids.length = 0
    · rw [if_pos (by omega), decide_eq_true h1, Bool.true_and]
      by_cases h2 : x.name.size = 0
      · rw [if_pos (toList_nil.2 h2), decide_eq_true h2]
        by_cases h3 : 0 ≤ x.num
        · rw [if_pos h3, decide_eq_true h3]; rfl
        · rw [if_neg h3, if_neg (by omega), decide_eq_false h3]; rfl
      · rw [if_neg (fun e => h2 (toList_nil.1 e)), decide_eq_false h2]
        by_cases h3 : x.num = 0
        · rw [if_pos h3, decide_eq_true (show 0 ≤ x.num by omega), decide_eq_true h3]
          rfl
        · rw [if_neg h3, decide_eq_false h3]
          simp
    · rw [if_neg (by omega), decide_eq_false h1]; rfl
  · rw [if_neg (fun e => h0 (toList_nil.1 e)), single_node h0]
    obtain ⟨K, rfl⟩ : ∃ k, K = k + 1 := ⟨K - 1, by omega⟩
    by_cases h2 : x.name.size = 0
    · rw [if_pos (toList_nil.2 h2), decide_eq_true h2, Bool.true_and, P.cowrieref05_single.j0]
      by_cases h3 : x.num = 0
      · rw [if_neg (by rw [h3]; decide), decide_eq_true h3, Bool.true_and]
        rw [in_f _ _ (by decide) K (by omega), in_f _ _ (by decide) K (by omega), in_f _ _ (by decide) K (by omega)]
        unfold P.cowrieref05_Assigns.f
        rw [in_f _ _ (by decide) K (by omega)]
        simp only [Option.bind_some]
        show (if inL singlesL x.op = true then some ((((toSs x.kids).length : Nat) : Int) == 1) else if inL stepsL x.op = true then _ else if x.op.toList = ([63, 58] : List UInt8) then some ((((toSs x.kids).length : Nat) : Int) == 3) else if inL assignsL x.op = true then _ else if (((toSs x.kids).length : Nat) : Int) = 2 then some (inL doublesL x.op) else some false) = _
        rw [toSs_len]
        have hv : 0 < x.kids.length → P.cowrieref05_variable.f (P.rd_T25 (toSs x.kids) 0).f0 (P.rd_T25 (toSs x.kids) 0).f1 (P.rd_T25 (toSs x.kids) 0).f2 (P.rd_T25 (toSs x.kids) 0).f3 = some (headVar x.kids) := by
          intro hp
          obtain ⟨t0, t1, t2, t3⟩ := toS_f x.kids[0]
          rw [show (0 : Int) = ((0 : Nat) : Int) from rfl, rd_toS x.kids 0 hp, t0, t1, t2, t3, page_var, head_var hp _ (List.getElem?_eq_getElem hp)]
        have hts : (x.op.toList = ([63, 58] : List UInt8)) ↔ x.op = sTern := by
          rw [Lib.toList_data]
          exact ⟨fun e => ba_eq e, fun e => by rw [e]⟩
        have hbq : ∀ n : Nat, ((x.kids.length : Int) == (n : Int)) = decide ((x.kids.length : Int) = (n : Int)) := by
          intro n
          by_cases h : (x.kids.length : Int) = (n : Int)
          · rw [decide_eq_true h, beq_iff_eq.2 h]
          · rw [decide_eq_false h, beq_eq_false_iff_ne.2 h]
        rcases count_cases x.op with ⟨c1, hc⟩ | ⟨c1, c2, hc⟩ | ⟨c1, c2, c3, hc⟩ | ⟨c1, c2, c3, c4, hc⟩ | ⟨c1, c2, c3, c4, c5, hc⟩ | ⟨c1, c2, c3, c4, c5, hc⟩
        · rw [hc, c1, if_pos rfl]
          show some ((x.kids.length : Int) == ((1 : Nat) : Int)) = _
          rw [hbq 1]
          simp
        · rw [hc, c1, c2, if_neg (by decide), if_pos rfl]
          by_cases h1 : (x.kids.length : Int) = 1
          · rw [if_pos h1, if_pos (by omega), hv (by omega), Option.bind_some, decide_eq_true h1]; rfl
          · rw [if_neg h1, decide_eq_false h1]; rfl
        · have h5 : ¬ x.op = sTern := fun e => by rw [e] at c3; exact absurd c3 (by decide)
          rw [hc, c1, c2, c3, if_neg (by decide), if_neg (by decide), if_neg (fun e => h5 (hts.1 e)), if_pos rfl]
          by_cases h1 : (x.kids.length : Int) = 2
          · rw [if_pos h1, if_pos (by omega), hv (by omega), Option.bind_some, decide_eq_true h1]; rfl
          · rw [if_neg h1, decide_eq_false h1]; rfl
        · have h5 : ¬ x.op = sTern := fun e => by rw [e] at c4; exact absurd c4 (by decide)
          rw [hc, c1, c2, c3, c4, if_neg (by decide), if_neg (by decide), if_neg (fun e => h5 (hts.1 e)), if_neg (by decide)]
          by_cases h1 : (x.kids.length : Int) = 2
          · rw [if_pos h1, decide_eq_true h1]; rfl
          · rw [if_neg h1, decide_eq_false h1]; rfl
        · rw [hc, c1, c2, if_neg (by decide), if_neg (by decide), if_pos (hts.2 c5)]
          show some ((x.kids.length : Int) == ((3 : Nat) : Int)) = _
          rw [hbq 3]
          simp
        · rw [hc, c1, c2, c3, c4, if_neg (by decide), if_neg (by decide), if_neg (fun e => c5 (hts.1 e)), if_neg (by decide)]
          rw [decide_eq_false (show ¬ ((x.kids.length : Int) = -1) by omega)]
          split <;> rfl
      · rw [if_pos (bne_iff_ne.2 h3), decide_eq_false h3]; rfl
    · rw [if_neg (fun e => h2 (toList_nil.1 e)), decide_eq_false h2, P.cowrieref05_single.j0, if_pos rfl]; rfl
theorem page_all (x : E) : ∀ (K : Nat), szE x ≤ 1048576 → 2 * szE x + 1048600 ≤ K → P.cowrieref05_all.f K x.op x.name x.num (toSs x.kids) = some (allF x) := by
  refine E.ind (P := fun x => ∀ (K : Nat), szE x ≤ 1048576 → 2 * szE x + 1048600 ≤ K → P.cowrieref05_all.f K x.op x.name x.num (toSs x.kids) = some (allF x)) (fun op nm n ks ih => ?_) x
  intro K hz hK
  have hlen := szsE_len' ks
  have hz' := hz
  rw [szE] at hz' hK
  obtain ⟨K, rfl⟩ : ∃ k, K = k + 1 := ⟨K - 1, by omega⟩
  have hs := page_single (.mk op nm n ks) K (by omega) hz
  rw [P.cowrieref05_all.f, hs, Option.bind_some, allF_eq]
  have key : ∀ (d j K : Nat), j + d = ks.length → 2 * szsE (ks.drop j) + 1048601 ≤ K → P.cowrieref05_all.l0 K (j : Int) op nm n (toSs ks) = some (!(ks.drop j).any (fun k => !allF k)) := by
    intro d
    induction d with
    | zero =>
      intro j K hj hK
      obtain ⟨K, rfl⟩ : ∃ k, K = k + 1 := ⟨K - 1, by omega⟩
      rw [P.cowrieref05_all.l0, toSs_len, if_neg (by omega), List.drop_of_length_le (by omega)]
      rfl
    | succ d ihd =>
      intro j K hj hK
      obtain ⟨K, rfl⟩ : ∃ k, K = k + 1 := ⟨K - 1, by omega⟩
      have hjl : j < ks.length := by omega
      have hsz := szsE_drop ks j hjl
      have hpos := szE_pos ks[j]
      have hle : szE ks[j] ≤ szsE ks := szsE_mem ks _ (List.getElem_mem hjl)
      have k1 : szE ks[j] ≤ 1048576 := by omega
      have k2 : 2 * szE ks[j] + 1048600 ≤ K := by omega
      have k3 : j + 1 + d = ks.length := by omega
      have k4 : 2 * szsE (ks.drop (j + 1)) + 1048601 ≤ K := by omega
      have k5 : j < 4611686018427387904 := by omega
      have k6 : (j : Int) < (ks.length : Int) := by omega
      have hf := ih ks[j] (List.getElem_mem hjl) K k1 k2
      obtain ⟨t0, t1, t2, t3⟩ := toS_f ks[j]
      rw [P.cowrieref05_all.l0, toSs_len, if_pos k6, if_pos (Int.natCast_nonneg j), rd_toS ks j hjl, t0, t1, t2, t3, hf, Option.bind_some, w1n j k5, ihd (j + 1) K k3 k4, List.drop_eq_getElem_cons hjl, List.any_cons]
      cases allF ks[j] <;> rfl
  have h9 := key ks.length 0 K (by omega) (by rw [List.drop_zero]; omega)
  rw [List.drop_zero] at h9
  show (if singleF (.mk op nm n ks) = true then P.cowrieref05_all.l0 K ((0 : Nat) : Int) op nm n (toSs ks) else some false) = some (singleF (.mk op nm n ks) && !ks.any (fun k => !allF k))
  rw [h9]
  cases singleF (.mk op nm n ks) <;> rfl
theorem page_has (l : List ByteArray) (hl : l.length ≤ 1000) (x : E) : ∀ (K : Nat), szE x ≤ 1048576 → 2 * szE x + 1100 ≤ K → P.cowrieref05_has.f K x.op x.name x.num (toSs x.kids) l = some (anyE (fun y => inL l y.op) x) := by
  refine E.ind (P := fun x => ∀ (K : Nat), szE x ≤ 1048576 → 2 * szE x + 1100 ≤ K → P.cowrieref05_has.f K x.op x.name x.num (toSs x.kids) l = some (anyE (fun y => inL l y.op) x)) (fun op nm n ks ih => ?_) x
  intro K hz hK
  have hlen := szsE_len' ks
  rw [szE] at hz hK
  obtain ⟨K, rfl⟩ : ∃ k, K = k + 1 := ⟨K - 1, by omega⟩
  have hs := in_f l op hl K (by omega)
  rw [P.cowrieref05_has.f, anyE_eq]
  have key : ∀ (d j K : Nat), j + d = ks.length → 2 * szsE (ks.drop j) + 1101 ≤ K → P.cowrieref05_has.l0 K l (j : Int) op nm n (toSs ks) = some ((ks.drop j).any (anyE (fun y => inL l y.op))) := by
    intro d
    induction d with
    | zero =>
      intro j K hj hK
      obtain ⟨K, rfl⟩ : ∃ k, K = k + 1 := ⟨K - 1, by omega⟩
      rw [P.cowrieref05_has.l0, toSs_len, if_neg (by omega), List.drop_of_length_le (by omega)]
      rfl
    | succ d ihd =>
      intro j K hj hK
      obtain ⟨K, rfl⟩ : ∃ k, K = k + 1 := ⟨K - 1, by omega⟩
      have hjl : j < ks.length := by omega
      have hsz := szsE_drop ks j hjl
      have hpos := szE_pos ks[j]
      have hle : szE ks[j] ≤ szsE ks := szsE_mem ks _ (List.getElem_mem hjl)
      have k1 : szE ks[j] ≤ 1048576 := by omega
      have k2 : 2 * szE ks[j] + 1100 ≤ K := by omega
      have k3 : j + 1 + d = ks.length := by omega
      have k4 : 2 * szsE (ks.drop (j + 1)) + 1101 ≤ K := by omega
      have k5 : j < 4611686018427387904 := by omega
      have k6 : (j : Int) < (ks.length : Int) := by omega
      have hf := ih ks[j] (List.getElem_mem hjl) K k1 k2
      obtain ⟨t0, t1, t2, t3⟩ := toS_f ks[j]
      rw [P.cowrieref05_has.l0, toSs_len, if_pos k6, if_pos (Int.natCast_nonneg j), rd_toS ks j hjl, t0, t1, t2, t3, hf, Option.bind_some, w1n j k5, ihd (j + 1) K k3 k4, List.drop_eq_getElem_cons hjl, List.any_cons]
      cases anyE (fun y => inL l y.op) ks[j] <;> rfl
  have h9 := key ks.length 0 K (by omega) (by rw [List.drop_zero]; omega)
  rw [List.drop_zero] at h9
  show ((P.cowrieref01_In.f K l op).bind fun t => if t = true then some true else P.cowrieref05_has.l0 K l ((0 : Nat) : Int) op nm n (toSs ks)) = some (inL l op || ks.any (anyE (fun y => inL l y.op)))
  rw [hs, Option.bind_some, h9]
  cases inL l op <;> rfl
theorem page_plain (x : E) (K : Nat) (hz : szE x ≤ 1048576) (hK : 2 * szE x + 1100 ≤ K) : P.cowrieref05_Plain.f K x.op x.name x.num (toSs x.kids) = some (plainF x) := by
  unfold P.cowrieref05_Plain.f
  rw [page_has _ (by decide) x K hz hK, Option.bind_some]
  have h : (fun y : E => inL [(⟨#[42, 42]⟩ : ByteArray), (⟨#[112, 114, 101, 43, 43]⟩ : ByteArray), (⟨#[112, 114, 101, 45, 45]⟩ : ByteArray), (⟨#[112, 111, 115, 116, 43, 43]⟩ : ByteArray), (⟨#[112, 111, 115, 116, 45, 45]⟩ : ByteArray)] y.op) = bashE := by
    funext y
    unfold bashE inL stepsL
    rw [List.any_cons]
    congr 1
    exact decide_eq_decide.2 ⟨fun e => e.symm, fun e => e.symm⟩
  rw [h]
  rfl
theorem page_Deep (x : E) (K : Nat) (hz : szE x ≤ 1048576) (hK : 2 * szE x ≤ K) : P.cowrieref05_Deep.f K x.op x.name x.num (toSs x.kids) = some ((deepF 1000 x : Nat) : Int) := by
  unfold P.cowrieref05_Deep.f
  have h := page_deep x 1000 K (Nat.le_refl _) hz hK
  rw [show (1000 : Int) = ((1000 : Nat) : Int) from rfl, h]
  rfl
theorem page_check (x : E) (K : Nat) (hz : szE x ≤ 1048576) (hK : 2 * szE x + 1048600 ≤ K) : P.cowrieref05_Check.f K x.op x.name x.num (toSs x.kids) = some (checkF x) := by
  unfold P.cowrieref05_Check.f checkF
  rw [page_Deep x K hz (by omega), page_all x K hz hK, Option.bind_some, Option.bind_some]
  have hc : (((deepF 1000 x : Nat) : Int) > 60) ↔ 60 < deepF 1000 x := by omega
  by_cases h : 60 < deepF 1000 x
  · rw [if_pos (hc.2 h), if_pos h]
  · rw [if_neg (fun e => h (hc.1 e)), if_neg h]
    cases allF x <;> rfl
section
variable {x : E} {A : Option Addr} {c : Nat} {w : World} {ok : Nat → Prop}
theorem pageCheck_calls (h : SumR w ok x [.string x.op, .string x.name, .int .i64 x.num, .slice A x.kids.length c]) (hz : szE x ≤ 1048576) :
    Calls Tryd.prog 15 #[sumV x A c] w fun e w' => e = .returned (.int .i64 (checkF x)) ∧ Below w.heap.size w w' := by
  obtain ⟨h1, h2⟩ := sumR_C h
  have := P.cowrieref05_Check.calls (2 * szE x + 1048600) x.op x.name x.num A c (toSs x.kids) (checkF x) w h1 h2 (page_check x _ hz (Nat.le_refl _))
  rw [toSs_len] at this
  exact this
theorem pageDeep_calls (h : SumR w ok x [.string x.op, .string x.name, .int .i64 x.num, .slice A x.kids.length c]) (hz : szE x ≤ 1048576) :
    Calls Tryd.prog 16 #[sumV x A c] w fun e w' => e = .returned (.int .i64 (deepF 1000 x : Nat)) ∧ Below w.heap.size w w' := by
  obtain ⟨h1, h2⟩ := sumR_C h
  have := P.cowrieref05_Deep.calls (2 * szE x) x.op x.name x.num A c (toSs x.kids) ((deepF 1000 x : Nat) : Int) w h1 h2 (page_Deep x _ hz (Nat.le_refl _))
  rw [toSs_len] at this
  exact this
theorem pagePlain_calls (h : SumR w ok x [.string x.op, .string x.name, .int .i64 x.num, .slice A x.kids.length c]) (hz : szE x ≤ 1048576) :
    Calls Tryd.prog 17 #[sumV x A c] w fun e w' => e = .returned (.bool (plainF x)) ∧ Below w.heap.size w w' := by
  obtain ⟨h1, h2⟩ := sumR_C h
  have := P.cowrieref05_Plain.calls (2 * szE x + 1100) x.op x.name x.num A c (toSs x.kids) (plainF x) w h1 h2 (page_plain x _ hz (Nat.le_refl _))
  rw [toSs_len] at this
  exact this
end
end Go.Proofs.YtlbgnpllbogkeaaDoor.Ext
end

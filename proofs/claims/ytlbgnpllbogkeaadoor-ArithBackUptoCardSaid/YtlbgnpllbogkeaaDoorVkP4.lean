/- Proved: cowrielaw05.ArithBack's call is true. Conditions: an expression of at most 2 to the 20 values and letters; the table of blanks holds what its initialiser lays. Proved: cowrielaw05.ArithBack's call is true. Conditions: an expression of at most 2 to the 20 values and letters; the table of blanks holds what its initialiser lays. -/
import Derived.Test.YtlbgnpllbogkeaaDoorVkArBackQ
import Derived.Test.YtlbgnpllbogkeaaDoorVkArText4
import Derived.Test.YtlbgnpllbogkeaaDoorVkArPage2
section
set_option linter.unusedVariables false
set_option linter.unusedSimpArgs false
namespace Go.Proofs.YtlbgnpllbogkeaaDoor.Ext
open Go.RowKit Go.Proofs.YtlbgnpllbogkeaaDoorW.PrintWords
theorem sz_small {x : E} (h : szE x ≤ 1048576) : SzE x := by
  have key : ∀ x : E, szE x ≤ 1048576 → SzE x := by
    intro x
    refine E.ind (P := fun x => szE x ≤ 1048576 → SzE x) (fun op nm n ks ih => ?_) x
    intro h
    have hs := szE_eq (.mk op nm n ks)
    refine any_kids (decide_eq_false (by show ¬ 1000000000 < (E.mk op nm n ks).name.size; omega)) (fun k hk => ih k hk (by have := szE_kid (x := .mk op nm n ks) hk; omega))
  exact key x h
theorem decs_short (n : Nat) (h : n < 9223372036854775808) : (decs n).length ≤ 19 := decs_length n 18 (by omega)
theorem closed_len (x : E) : (closedF x).length ≤ (textF x).length + 2 := by
  unfold closedF closeL
  split
  · omega
  · simp only [List.length_cons, List.length_append, List.length_nil]
    omega
/-- A text is not long. -/
theorem text_len (x : E) : allF x = true → NumE x → (textF x).length ≤ 5 * szE x := by
  refine E.ind (P := fun x => allF x = true → NumE x → (textF x).length ≤ 5 * szE x) (fun op nm n ks ih => ?_) x
  intro ha hn
  obtain ⟨hs1, hkids⟩ := allF_inv ha
  have hsz := szE_eq (.mk op nm n ks)
  by_cases h0 : op.size = 0
  · rcases leaf_cases hs1 h0 with ⟨q, hx, ht, hnn⟩ | ⟨b, hx, hb, ht⟩
    · have hb : q < 9223372036854775808 := by have := hn.here; rw [hnn] at this; omega
      rw [ht]
      have := decs_short q hb
      omega
    · rw [ht, ← Lib.size_eq]
      have : b = (E.mk op nm n ks).name := by rw [hx]; rfl
      rw [this]
      omega
  · obtain ⟨e1, e2, e3, e4⟩ := node_shape hs1 h0
    have e1 : nm = em := e1
    have e2 : n = 0 := e2
    have j3 : (ks.length : Int) = (countF op).1 := e3
    have j4 : (countF op).2 = true → headVar ks = true := e4
    clear e3 e4
    subst e1
    subst e2
    have hk : ∀ k ∈ ks, (closedF k).length ≤ 5 * szE k + 2 := fun k hm => Nat.le_trans (closed_len k) (by have := ih k hm (hkids k hm) (hn.kid hm); omega)
    have htx : textF (E.mk op em 0 ks) = textK op em 0 ks (ks.map closedF) := textF_eq _
    rw [htx]
    have hsk : szE (E.mk op em 0 ks) = op.size + szsE ks + 5 := by rw [hsz]; show op.size + em.size + szsE ks + 5 = _; rfl
    rw [hsk]
    rcases count_cases op with ⟨c1, hc0⟩ | ⟨c1, c2, hc0⟩ | ⟨c1, c2, c3, hc0⟩ | ⟨c1, c2, c3, c4, hc0⟩ | ⟨c1, c2, c3, c4, c5, hc0⟩ | ⟨c1, c2, c3, c4, c5, hc0⟩
    · rw [hc0] at j3
      obtain ⟨a, rfl⟩ := one_kid (show ks.length = 1 by omega)
      have h1 := hk a (List.mem_singleton.2 rfl)
      have e5 : szsE [a] = szE a := by rw [szsE, szsE]; rfl
      rw [e5]
      have key : ∀ o ∈ singlesL, o = sNeg ∨ ¬ o = sNeg := by decide
      rcases key op (inL_iff.1 c1) with h | h
      · subst h
        rw [textK_neg]
        show (45 :: 32 :: closedF a).length ≤ _
        simp only [List.length_cons]
        omega
      · rw [textK_un h0 h c1]
        show (op.data.toList ++ 32 :: closedF a).length ≤ _
        simp only [List.length_cons, List.length_append]
        rw [← Lib.size_eq]
        omega
    · rw [hc0] at j3 j4
      obtain ⟨a, rfl⟩ := one_kid (show ks.length = 1 by omega)
      obtain ⟨b, rfl, hb⟩ := var_leaf (hkids a (List.mem_singleton.2 rfl)) (j4 rfl)
      have e5 : szsE [varE b] = szE (varE b) := by rw [szsE, szsE]; rfl
      have e6 := szE_eq (varE b)
      have e7 : (varE b).name.size = b.size := rfl
      have e8 : (kidName [varE b]).length = b.size := by show b.data.toList.length = _; rw [← Lib.size_eq]
      rw [e5]
      have key : ∀ op ∈ stepsL, ¬ op.size = 0 ∧ ¬ op = sNeg ∧ inL singlesL op = false ∧ op.size ≤ 100 ∧ (preOf op = true ∨ (preOf op = false ∧ postOf op = true)) := by decide +kernel
      obtain ⟨f0, f1, f2, f4, f5⟩ := key op (inL_iff.1 c2)
      rcases f5 with f5 | ⟨f5, f6⟩
      · rw [textK_pre f0 f1 f2 f5, List.length_append, e8, List.length_drop, ← Lib.size_eq]
        omega
      · rw [textK_post f0 f1 f2 f5 f6, List.length_append, e8, List.length_drop, ← Lib.size_eq]
        omega
    · rw [hc0] at j3
      obtain ⟨a, b, rfl⟩ := two_kids (show ks.length = 2 by omega)
      obtain ⟨b0, b1, b2, b3, b4, b5, b6, b7, b8⟩ := bin_inv (assigns_bin op (inL_iff.1 c3)).1
      have h1 := hk a List.mem_cons_self
      have h2 := hk b (List.mem_cons_of_mem _ (List.mem_singleton.2 rfl))
      have e5 : szsE [a, b] = szE a + szE b := by rw [szsE, szsE, szsE]; rfl
      rw [e5, textK_bin b0 b1 b2 b3 b4 b5]
      show (closedF a ++ 32 :: (op.data.toList ++ 32 :: closedF b)).length ≤ _
      simp only [List.length_cons, List.length_append]
      rw [← Lib.size_eq]
      omega
    · rw [hc0] at j3
      obtain ⟨a, b, rfl⟩ := two_kids (show ks.length = 2 by omega)
      have hbin : binOk op = true := by
        rcases doubles_cases op (inL_iff.1 c4) with h | h | h
        · rw [h]; exact comma_bin.1
        · rw [h]; exact power_bin
        · exact h.1
      obtain ⟨b0, b1, b2, b3, b4, b5, b6, b7, b8⟩ := bin_inv hbin
      have h1 := hk a List.mem_cons_self
      have h2 := hk b (List.mem_cons_of_mem _ (List.mem_singleton.2 rfl))
      have e5 : szsE [a, b] = szE a + szE b := by rw [szsE, szsE, szsE]; rfl
      rw [e5, textK_bin b0 b1 b2 b3 b4 b5]
      show (closedF a ++ 32 :: (op.data.toList ++ 32 :: closedF b)).length ≤ _
      simp only [List.length_cons, List.length_append]
      rw [← Lib.size_eq]
      omega
    · subst c5
      rw [hc0] at j3
      obtain ⟨a, b, d, rfl⟩ := three_kids (show ks.length = 3 by omega)
      have h1 := hk a List.mem_cons_self
      have h2 := hk b (List.mem_cons_of_mem _ List.mem_cons_self)
      have h3 := hk d (List.mem_cons_of_mem _ (List.mem_cons_of_mem _ (List.mem_singleton.2 rfl)))
      have e5 : szsE [a, b, d] = szE a + (szE b + szE d) := by rw [szsE, szsE, szsE, szsE]; rfl
      rw [e5, textK_tern]
      show (closedF a ++ 32 :: 63 :: 32 :: (closedF b ++ 32 :: 58 :: 32 :: closedF d)).length ≤ _
      simp only [List.length_cons, List.length_append]
      omega
    · rw [hc0] at j3
      exact absurd j3 (by show ¬ ((ks.length : Int) = -1); omega)
def printF (x : E) : ByteArray := if checkF x = 0 then txB x else ⟨#[]⟩
theorem check_ok {x : E} (h : checkF x = 0) : allF x = true := by
  unfold checkF at h
  split at h
  · cases h
  · split at h
    · assumption
    · cases h
set_option maxHeartbeats 4000000 in
theorem Print_calls (x : E) (A : Option Addr) (c : Nat) (w : World) (ok : Nat → Prop) (h : SumR w ok x [.string x.op, .string x.name, .int .i64 x.num, .slice A x.kids.length c]) (hn : NumE x) (hz : szE x ≤ 1048576) (hT : Tab w) :
    Calls Tryd.prog 14 #[sumV x A c] w fun e w' => e = .returned (.tuple #[.string (printF x), .int .i64 (checkF x)]) ∧ Below w.heap.size w w' := by
  unfold printF
  have hb0 := (Below.refl _ w).alloc (Nat.le_refl _) (.cells #[.string x.op, .string x.name, .int .i64 x.num, .slice A x.kids.length c] 25)
  have HB0 := Lib.hid hb0
  have HX0 := Lib.hid (Bx.new w #[.string x.op, .string x.name, .int .i64 x.num, .slice A x.kids.length c])
  have HC := Lib.hid (Check_calls x A c _ ok (h.bel hb0) (sz_small hz) (hT.below hb0))
  have late : Tryd.prog.follows Departure.lateStores = true := by kernel_rfl
  have HK := Lib.hid (fun (ha : allF x = true) (W : World) (hW : Below (w.alloc (.cells #[.string x.op, .string x.name, .int .i64 x.num, .slice A x.kids.length c] 25)).heap.size (w.alloc (.cells #[.string x.op, .string x.name, .int .i64 x.num, .slice A x.kids.length c] 25)) W) =>
    (show Calls Tryd.prog 27 #[.agg #[.string x.op, .string x.name, .int .i64 x.num, .slice A x.kids.length c]] W _ from text_calls x ha A c W ok ((h.bel hb0).bel hW) ((hT.below hb0).below hW) ha hn (by have := text_len x ha hn; omega)))
  clear h hb0 hT hn hz
  by_cases hc : checkF x = 0
  · have HA := Lib.hid (check_ok hc)
    rw [if_pos hc]
    rw [hc] at HC ⊢
    clear hc
    generalize txB x = tb at *
    go_enter Tryd.func14, Tryd.ntmps14
    go_wp2_with fail
    refine HC.out.mono ?_
    rintro e w1 ⟨rfl, hb1⟩
    have HB1 := Lib.hid (below_step HB0.out hb1)
    have HK1 := Lib.hid (HK.out HA.out w1 hb1)
    obtain ⟨q0, q1, q2, q3, q4, q5, q6, q7⟩ := (HX0.out.bel hb1).all
    clear hb1 HK
    go_wp2_with fail
    refine HK1.out.mono ?_
    rintro e w2 ⟨rfl, hb2⟩
    have HB2 := Lib.hid (below_step HB1.out hb2)
    clear hb2
    go_wp2_with fail
    go_ret2
    exact ⟨rfl, HB2.out⟩
  · have e1 : (checkF x == 0) = false := beq_eq_false_iff_ne.2 hc
    have e2 : (checkF x != 0) = true := bne_iff_ne.2 hc
    rw [if_neg hc]
    generalize checkF x = ck at *
    clear HK hc
    go_enter Tryd.func14, Tryd.ntmps14
    go_wp2_with fail
    refine HC.out.mono ?_
    rintro e w1 ⟨rfl, hb1⟩
    have HB1 := Lib.hid (below_step HB0.out hb1)
    clear hb1
    go_wp2_with fail
    go_ret2
    exact ⟨rfl, HB1.out⟩
end Go.Proofs.YtlbgnpllbogkeaaDoor.Ext
end

section
set_option linter.unusedVariables false
set_option linter.unusedSimpArgs false
namespace Go.Proofs.YtlbgnpllbogkeaaDoor.Ext
open Go.RowKit Go.Proofs.YtlbgnpllbogkeaaDoorW.PrintWords
def cowrielaw05_ArithBack.f (x : E) : Option Bool := if szE x ≤ 1048576 then some true else none
set_option maxHeartbeats 8000000 in
set_option maxRecDepth 100000 in
theorem cowrielaw05_ArithBack.calls (x : E) (A : Option Addr) (c : Nat) (r : Bool) (w : World) (hS : SumR w (fun _ => True) x [.string x.op, .string x.name, .int .i64 x.num, .slice A x.kids.length c]) (hn : NumE x) (hT : Tab w) (h : cowrielaw05_ArithBack.f x = some r) :
    Calls Tryd.prog 6 #[.agg #[.string x.op, .string x.name, .int .i64 x.num, .slice A x.kids.length c]] w fun e w' => e = .returned (.bool r) ∧ Below w.heap.size w w' := by
  unfold cowrielaw05_ArithBack.f at h
  split at h
  case isFalse => cases h
  rename_i hsz
  obtain rfl := Option.some.inj h
  have hb0 := (Below.refl _ w).alloc (Nat.le_refl _) (.cells #[.string x.op, .string x.name, .int .i64 x.num, .slice A x.kids.length c] 25)
  have HB0 := Lib.hid hb0
  have HX0 := Lib.hid (Bx.new w #[.string x.op, .string x.name, .int .i64 x.num, .slice A x.kids.length c])
  have HS0 := Lib.hid (hS.bel hb0)
  have HT0 := Lib.hid (hT.below hb0)
  have HSZ := Lib.hid hsz
  have HN := Lib.hid hn
  have HNC := Lib.hid num_calls
  have HAL := Lib.hid (fun W hT => alive_calls W hT)
  have mixed : Tryd.prog.follows Departure.mixedOrders = true := by kernel_rfl
  have late : Tryd.prog.follows Departure.lateStores = true := by kernel_rfl
  clear h hS hn hT hb0 hsz
  obtain ⟨w0, hw0⟩ : ∃ w0, w0 = w.alloc (.cells #[.string x.op, .string x.name, .int .i64 x.num, .slice A x.kids.length c] 25) := ⟨_, rfl⟩
  rw [← hw0] at HB0 HX0 HS0 HT0
  have HW := Lib.hid hw0
  clear hw0
  go_enter Tryd.func6, Tryd.ntmps6
  go_wp2_with fail
  rw [← HW.out]
  refine (HAL.out w0 HT0.out).mono ?_
  rintro e w1 ⟨rfl, hb1⟩
  have HB1 := Lib.hid hb1
  clear hb1 HAL HW
  obtain ⟨q0, q1, q2, q3, q4, q5, q6, q7⟩ := (HX0.out.bel HB1.out).all
  go_wp2_with fail
  refine (Print_calls x A c w1 _ (HS0.out.bel HB1.out) HN.out HSZ.out (HT0.out.below HB1.out)).mono ?_
  rintro e w2 ⟨rfl, hb2⟩
  have HB2 := Lib.hid (below_step HB1.out hb2)
  clear hb2 q0 q1 q2 q3 q4 q5 q6 q7
  obtain ⟨q0, q1, q2, q3, q4, q5, q6, q7⟩ := (HX0.out.bel HB2.out).all
  go_wp2_with fail
  refine (pageCheck_calls (HS0.out.bel HB2.out) HSZ.out).mono ?_
  rintro e w3 ⟨rfl, hb3⟩
  have HB3 := Lib.hid (below_step HB2.out hb3)
  clear hb3 q0 q1 q2 q3 q4 q5 q6 q7
  obtain ⟨q0, q1, q2, q3, q4, q5, q6, q7⟩ := (HX0.out.bel HB3.out).all
  by_cases hck : checkF x = 0
  · have hall := check_ok hck
    have hpr : printF x = txB x := by unfold printF; rw [if_pos hck]
    have HALL := Lib.hid hall
    have hlen := txB_size x
    rw [hpr, hck]
    clear hpr hck hall
    go_wp2_with fail
    refine (pageDeep_calls (HS0.out.bel HB3.out) HSZ.out).mono ?_
    rintro e w4 ⟨rfl, hb4⟩
    have HB4 := Lib.hid (below_step HB3.out hb4)
    clear hb4 q0 q1 q2 q3 q4 q5 q6 q7
    by_cases hd : 25 < deepF 1000 x
    · have hd1 : decide ((25 : Int) < ((deepF 1000 x : Nat) : Int)) = true := decide_eq_true (by omega)
      have hd2 : decide (25 < deepF 1000 x) = true := decide_eq_true hd
      generalize deepF 1000 x = dd at *
      clear hd
      go_wp2_with fail
      refine (HNC.out 0 w4).mono ?_
      rintro e w5 ⟨rfl, hb5⟩
      have HB5 := Lib.hid (below_step HB4.out hb5)
      clear hb5
      go_wp2_with fail
      go_ret
      exact ⟨rfl, below_step HB0.out HB5.out⟩
    · have hd1 : decide ((25 : Int) < ((deepF 1000 x : Nat) : Int)) = false := decide_eq_false (by omega)
      have hd2 : decide (25 < deepF 1000 x) = false := decide_eq_false hd
      have HD := Lib.hid (show deepF 1000 x ≤ 25 by omega)
      by_cases hl : 16384 < (txB x).size
      · have hl1 : decide ((16384 : Int) < ((txB x).size : Int)) = true := decide_eq_true (by omega)
        have hl2 : decide (16384 < (txB x).size) = true := decide_eq_true hl
        generalize deepF 1000 x = dd at *
        generalize txB x = tb at *
        clear hd hl hlen HD
        go_wp2_with fail
        refine (HNC.out 0 w4).mono ?_
        rintro e w5 ⟨rfl, hb5⟩
        have HB5 := Lib.hid (below_step HB4.out hb5)
        clear hb5
        go_wp2_with fail
        go_ret
        exact ⟨rfl, below_step HB0.out HB5.out⟩
      · have hl1 : decide ((16384 : Int) < ((txB x).size : Int)) = false := decide_eq_false (by omega)
        have hl2 : decide (16384 < (txB x).size) = false := decide_eq_false hl
        have HBP := Lib.hid (fun bash hp => back_parse x bash HALL.out hp HN.out HD.out (by omega))
        rw [← hlen] at HBP
        have HPC := Lib.hid (fun W hT => Parse_calls (txB x) true W hT (by omega))
        have HPF := Lib.hid (fun W hT => Parse_calls (txB x) false W hT (by omega))
        have hp1 := HBP.out true (.inl rfl)
        change parseS (txB x) true = _ at hp1
        rw [hp1] at HPC
        have HSM := Lib.hid (same_calls x)
        have haa : (((txB x).size : Int) != ((txB x).size : Int)) = false := bne_eq_false_iff_eq.2 rfl
        have hab : (((txB x).size : Int) == ((txB x).size : Int)) = true := beq_iff_eq.2 rfl
        have HBQ := Lib.hid (fun hp => show parseS (txB x) false = (x, (txB x).size, 0) from HBP.out false (.inr hp))
        clear hp1 HBP
        generalize deepF 1000 x = dd at *
        generalize txB x = tb at *
        clear hd hl hlen HD
        go_wp2_with fail
        refine (HPC.out w4 (HT0.out.below HB4.out)).mono ?_
        rintro e w5 ⟨A1, c1, rfl, hS5, hb5⟩
        dsimp only at hS5 ⊢
        have hbo := (Below.refl _ w5).alloc (Nat.le_refl _) (oneO x A1 c1)
        have HS6 := Lib.hid (hS5.bel hbo)
        have HY6 := Lib.hid (Bx.new w5 #[.string x.op, .string x.name, .int .i64 x.num, .slice A1 x.kids.length c1])
        have HB6 := Lib.hid (below_step HB4.out (below_step hb5 hbo))
        clear hS5 hbo hb5
        go_wp2_with fail
        obtain ⟨w6, hw6⟩ : ∃ w6, w6 = w5.alloc (oneO x A1 c1) := ⟨_, rfl⟩
        rw [← hw6] at HS6 HY6 HB6
        rw [show w5.alloc (.cells #[.string x.op, .string x.name, .int .i64 x.num, .slice A1 x.kids.length c1] 25) = w6 from hw6.symm]
        refine (HPF.out w6 (HT0.out.below HB6.out)).mono ?_
        rintro e w7 ⟨A2, c2, rfl, hS7, hb7⟩
        obtain ⟨R, hR⟩ : ∃ R, parseS tb false = R := ⟨_, rfl⟩
        have HR := Lib.hid hR
        rw [hR] at hS7 ⊢
        obtain ⟨z, m, g⟩ := R
        dsimp only at hS7 ⊢
        have hbo := (Below.refl _ w7).alloc (Nat.le_refl _) (oneO z A2 c2)
        have HS8 := Lib.hid (hS7.bel hbo)
        have HZ8 := Lib.hid (Bx.new w7 #[.string z.op, .string z.name, .int .i64 z.num, .slice A2 z.kids.length c2])
        have HB8 := Lib.hid (below_step hb7 hbo)
        have HB8' := Lib.hid (below_step HB6.out (below_step hb7 hbo))
        clear hS7 hbo hb7 hR hw6
        go_wp2_with fail
        obtain ⟨w8, hw8⟩ : ∃ w8, w8 = w7.alloc (oneO z A2 c2) := ⟨_, rfl⟩
        rw [← hw8] at HS8 HZ8 HB8 HB8'
        rw [show w7.alloc (.cells #[.string z.op, .string z.name, .int .i64 z.num, .slice A2 z.kids.length c2] 25) = w8 from hw8.symm]
        refine (HNC.out 0 w8).mono ?_
        rintro e w9 ⟨rfl, hb9⟩
        have HB9 := Lib.hid (below_step (Below.refl _ w8) hb9)
        clear hb9 hw8
        go_wp2_with fail
        refine (HNC.out 0 w9).mono ?_
        rintro e w10 ⟨rfl, hb10⟩
        have HB10 := Lib.hid (below_step HB9.out hb10)
        clear hb10
        obtain ⟨q0, q1, q2, q3, q4, q5, q6, q7⟩ := (HX0.out.bel (below_step HB8'.out HB10.out)).all
        obtain ⟨p0, p1, p2, p3, p4, p5, p6, p7⟩ := (HY6.out.bel (below_step HB8.out HB10.out)).all
        go_wp2_with fail
        refine (HSM.out A A1 c c1 w10 _ _ (HS0.out.bel (below_step HB8'.out HB10.out)) (HS6.out.bel (below_step HB8.out HB10.out))).mono ?_
        rintro e w11 ⟨rfl, hb11⟩
        have HB11 := Lib.hid (below_step HB10.out hb11)
        clear hb11 q0 q1 q2 q3 q4 q5 q6 q7 p0 p1 p2 p3 p4 p5 p6 p7
        obtain ⟨q0, q1, q2, q3, q4, q5, q6, q7⟩ := (HX0.out.bel (below_step HB8'.out HB11.out)).all
        go_wp2_with fail
        refine (pagePlain_calls (HS0.out.bel (below_step HB8'.out HB11.out)) HSZ.out).mono ?_
        rintro e w12 ⟨rfl, hb12⟩
        have HB12 := Lib.hid (below_step HB11.out hb12)
        clear hb12 q0 q1 q2 q3 q4 q5 q6 q7
        cases hpl : plainF x with
        | false =>
          go_wp2_with fail
          go_ret
          exact ⟨rfl, below_step HB0.out (below_step HB8'.out HB12.out)⟩
        | true =>
          have hz := HR.out
          rw [HBQ.out hpl] at hz
          injection hz with hz1 hz2
          injection hz2 with hz2 hz3
          subst hz1
          subst hz2
          subst hz3
          go_wp2_with fail
          refine (HNC.out 0 w12).mono ?_
          rintro e w13 ⟨rfl, hb13⟩
          have HB13 := Lib.hid (below_step HB12.out hb13)
          clear hb13
          obtain ⟨q0, q1, q2, q3, q4, q5, q6, q7⟩ := (HX0.out.bel (below_step HB8'.out HB13.out)).all
          obtain ⟨p0, p1, p2, p3, p4, p5, p6, p7⟩ := (HZ8.out.bel HB13.out).all
          go_wp2_with fail
          refine (HSM.out A A2 c c2 w13 _ _ (HS0.out.bel (below_step HB8'.out HB13.out)) (HS8.out.bel HB13.out)).mono ?_
          rintro e w14 ⟨rfl, hb14⟩
          have HB14 := Lib.hid (below_step HB13.out hb14)
          clear hb14
          go_wp2_with fail
          go_ret
          exact ⟨rfl, below_step HB0.out (below_step HB8'.out HB14.out)⟩
  · have e1 : (checkF x == 0) = false := beq_eq_false_iff_ne.2 hck
    have e2 : (checkF x != 0) = true := bne_iff_ne.2 hck
    have hpr : printF x = ⟨#[]⟩ := by unfold printF; rw [if_neg hck]
    have e3 : (checkF x == checkF x) = true := beq_iff_eq.2 rfl
    have HPK := Lib.hid (fun W (hW : Below w3.heap.size w3 W) => pageCheck_calls (HS0.out.bel (below_step HB3.out hW)) HSZ.out)
    rw [hpr]
    generalize checkF x = ck at *
    have HNK := Lib.hid (HNC.out ck)
    clear hck hpr
    go_wp2_with fail
    go_region_held3 (fun W => Below w3.heap.size w3 W ∧ (W.cell? ⟨w.heap.size, 0, none⟩ = some (.string x.op) ∧ W.cell? ⟨w.heap.size, 1, none⟩ = some (.string x.name) ∧ W.cell? ⟨w.heap.size, 2, none⟩ = some (.int .i64 x.num) ∧ W.cell? ⟨w.heap.size, 3, none⟩ = some (.slice A x.kids.length c)))
      (first
        | (with_reducible exact ⟨below_drew (Below.refl _ w3), ⟨q0, q1, q2, q3⟩⟩)
        | (exact ⟨below_drew (Below.refl _ w3), ⟨q0, q1, q2, q3⟩⟩)
        | (exact ⟨HB12.out, ⟨cell_kept HB12.out q0, cell_kept HB12.out q1, cell_kept HB12.out q2, cell_kept HB12.out q3⟩⟩)
        | (exact ⟨HB11.out, ⟨cell_kept HB11.out q0, cell_kept HB11.out q1, cell_kept HB11.out q2, cell_kept HB11.out q3⟩⟩))
      (first
        | (go_simp; go_at_call 9; (with_reducible refine (HNK.out _).mono ?_); rintro e11 w11 ⟨rfl, hb11⟩
           have HB11 := Lib.hid (below_step (below_drew (Below.refl _ w3)) hb11)
           dsimp only)
        | (go_simp; go_at_call 15; (with_reducible refine (HPK.out _ HB11.out).mono ?_); rintro e12 w12 ⟨rfl, hb12⟩
           have HB12 := Lib.hid (below_step HB11.out hb12)
           dsimp only))
    all_goals (
      have HB14 := Lib.hid (below_step HB0.out (below_step HB3.out HB12.out))
      go_wp2_with fail
      go_ret
      exact ⟨rfl, HB14.out⟩)
end Go.Proofs.YtlbgnpllbogkeaaDoor.Ext
namespace Go.Proofs.YtlbgnpllbogkeaaDoor.P
end Go.Proofs.YtlbgnpllbogkeaaDoor.P
end

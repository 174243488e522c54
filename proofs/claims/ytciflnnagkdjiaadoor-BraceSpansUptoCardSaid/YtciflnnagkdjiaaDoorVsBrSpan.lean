/- Proved: brace.ends' call: a span's ends, and brace.span's call: all words from one to another. Conditions: at most 10 to the 9 octets; MaxLen holds a number. -/
import Derived.Test.YtciflnnagkdjiaaDoorVsBrExpPure
import Derived.Test.YtciflnnagkdjiaaDoorVsParseR
import Derived.Test.YtciflnnagkdjiaaDoorVsR2
import Derived.Deep.QuietTactic
import Derived.Test.YtciflnnagkdjiaaDoorVsPr
set_option linter.unusedVariables false
set_option linter.unusedSimpArgs false
namespace Go.Proofs.YtciflnnagkdjiaaDoor.Ext
open Go.RowKit Go.Proofs.YtciflnnagkdjiaaDoorW.PrintWords
theorem bound_some (s : ByteArray) (hs : s.size ≤ 1000000000) : ∃ r, R.brace_bound.f s = some r := by
  unfold R.brace_bound.f
  rw [trim_one_pre]
  have hsz : (if s.data.toList.head? = some 45 then s.extract 1 s.size else s).size ≤ 1000000000 := by
    split
    · rw [ByteArray.size_extract]; omega
    · exact hs
  generalize (if s.data.toList.head? = some 45 then s.extract 1 s.size else s) = t at *
  rw [Option.bind_some]
  unfold octets_Digits.f
  rw [if_pos hsz, Option.bind_some, parse_spec s (by omega), Option.bind_some]
  split
  · split <;> exact ⟨_, rfl⟩
  · exact ⟨_, rfl⟩
def boundB (s : ByteArray) : Int × Bool := (R.brace_bound.f s).getD (0, false)
theorem bound_calls (s : ByteArray) (w : World) (hs : s.size ≤ 1000000000) : Calls Tryd.prog 46 #[.string s] w fun e w' => e = .returned (.tuple #[.int .i64 (boundB s).1, .bool (boundB s).2]) ∧ Below w.heap.size w w' := by
  obtain ⟨r, hr⟩ := bound_some s hs
  have := R.brace_bound.calls s r.1 r.2 w hr
  unfold boundB
  rw [hr]
  exact this
/-- A letter, by its octet. -/
def isLet (c : UInt8) : Bool := decide (97 ≤ c.toNat ∧ c.toNat ≤ 122 ∨ 65 ≤ c.toNat ∧ c.toNat ≤ 90)
def letterOf (s : ByteArray) : Option Int := match s.data.toList with
  | [c] => if isLet c = true then some (c.toNat : Int) else none
  | _ => none
def LetterSay (r : Option Int) (e : Ending) : Prop := match r with
  | some c => e = .returned (.tuple #[.int .i64 c, .bool true])
  | none => ∃ v, e = .returned (.tuple #[.int .i64 v, .bool false])
theorem pos_of (c : UInt8) : 0 < ((⟨#[c]⟩ : ByteArray) ++ ⟨#[0]⟩ : ByteArray).size := by rw [ByteArray.size_append]; show 0 < 1 + 1; omega
theorem app_of (c : UInt8) : ((⟨#[c]⟩ : ByteArray) ++ ⟨#[0]⟩ : ByteArray) = ⟨#[c, 0]⟩ := by
  apply ByteArray.ext
  simp
theorem at_of {t : ByteArray} {c : UInt8} (e : t = ⟨#[c, 0]⟩) (h : 0 < t.size) : t[0]'h = c := by
  subst e
  rfl
theorem first_of (c : UInt8) : wrap64 (((⟨#[c]⟩ : ByteArray) ++ ⟨#[0]⟩ : ByteArray)[0]'(pos_of c)).toNat = (c.toNat : Int) := by
  rw [at_of (app_of c)]
  have h := c.toNat_lt
  unfold wrap64
  omega
theorem first_at {s : ByteArray} {c : UInt8} (hc : s = ⟨#[c]⟩) (h : 0 < (s ++ ⟨#[0]⟩ : ByteArray).size) : wrap64 ((s ++ ⟨#[0]⟩ : ByteArray)[0]'h).toNat = (c.toNat : Int) := by
  subst hc
  exact first_of c
set_option maxHeartbeats 4000000 in
theorem letter_calls (s : ByteArray) (w : World) (hs : s.size ≤ 1000000000) : Calls Tryd.prog 47 #[.string s] w fun e w' => LetterSay (letterOf s) e ∧ Below w.heap.size w w' := by
  have mixed : Tryd.prog.follows Departure.mixedOrders = true := by kernel_rfl
  by_cases h1 : s.size = 1
  · obtain ⟨c, hc⟩ : ∃ c, s = ⟨#[c]⟩ := by
      have h2 : s.data.toList.length = 1 := by simpa using h1
      obtain ⟨c, hc⟩ := List.length_eq_one_iff.1 h2
      exact ⟨c, by
        apply ByteArray.ext
        apply Array.toList_inj.1
        rw [hc]⟩
    have hlo : letterOf s = if isLet c = true then some (c.toNat : Int) else none := by rw [hc]; rfl
    have HC := Lib.hid hc
    have HLO := Lib.hid hlo
    have hap : 0 < (s ++ ⟨#[0]⟩ : ByteArray).size := by rw [hc]; exact pos_of c
    have hpos : 0 < s.size := by omega
    have hge : s[0]'hpos = c := by subst hc; rfl
    have hFA := Lib.hid (first_at hc hap)
    have hsz : ((s.size : Int) == 1) = true := beq_iff_eq.2 (by omega)
    clear hc
    clear hlo
    by_cases h97 : 97 ≤ c.toNat
    · by_cases h122 : c.toNat ≤ 122
      · have hl : isLet c = true := decide_eq_true (.inl ⟨h97, h122⟩)
        have d97 : decide ((97 : Int) ≤ (c.toNat : Int)) = true := decide_eq_true (by omega)
        have d122 : decide ((c.toNat : Int) ≤ 122) = true := decide_eq_true (by omega)
        rw [hl, if_pos rfl] at HLO
        go_enter Tryd.func47, Tryd.ntmps47
        go_wp2_with fail
        go_quiet (fail)
        go_wp2_with fail
        go_ret2
        unfold LetterSay
        rw [HLO.out]
        exact ⟨rfl, pw_below_drewN (Below.refl _ _) _⟩
      · have hl : isLet c = false := decide_eq_false (by omega)
        have h65 : 65 ≤ c.toNat := by omega
        have h90 : ¬ c.toNat ≤ 90 := by omega
        have d97 : decide ((97 : Int) ≤ (c.toNat : Int)) = true := decide_eq_true (by omega)
        have d122 : decide ((c.toNat : Int) ≤ 122) = false := decide_eq_false (by omega)
        have d65 : decide ((65 : Int) ≤ (c.toNat : Int)) = true := decide_eq_true (by omega)
        have d90 : decide ((c.toNat : Int) ≤ 90) = false := decide_eq_false (by omega)
        rw [hl, if_neg (by decide)] at HLO
        go_enter Tryd.func47, Tryd.ntmps47
        go_wp2_with fail
        go_quiet (fail)
        go_wp2_with fail
        go_ret2
        unfold LetterSay
        rw [HLO.out]
        exact ⟨⟨_, rfl⟩, pw_below_drewN (Below.refl _ _) _⟩
    · by_cases h65 : 65 ≤ c.toNat
      · by_cases h90 : c.toNat ≤ 90
        · have hl : isLet c = true := decide_eq_true (.inr ⟨h65, h90⟩)
          have d97 : decide ((97 : Int) ≤ (c.toNat : Int)) = false := decide_eq_false (by omega)
          have d65 : decide ((65 : Int) ≤ (c.toNat : Int)) = true := decide_eq_true (by omega)
          have d90 : decide ((c.toNat : Int) ≤ 90) = true := decide_eq_true (by omega)
          rw [hl, if_pos rfl] at HLO
          go_enter Tryd.func47, Tryd.ntmps47
          go_wp2_with fail
          go_quiet (fail)
          go_wp2_with fail
          go_ret2
          unfold LetterSay
          rw [HLO.out]
          exact ⟨rfl, pw_below_drewN (Below.refl _ _) _⟩
        · have hl : isLet c = false := decide_eq_false (by omega)
          have d97 : decide ((97 : Int) ≤ (c.toNat : Int)) = false := decide_eq_false (by omega)
          have d65 : decide ((65 : Int) ≤ (c.toNat : Int)) = true := decide_eq_true (by omega)
          have d90 : decide ((c.toNat : Int) ≤ 90) = false := decide_eq_false (by omega)
          rw [hl, if_neg (by decide)] at HLO
          go_enter Tryd.func47, Tryd.ntmps47
          go_wp2_with fail
          go_quiet (fail)
          go_wp2_with fail
          go_ret2
          unfold LetterSay
          rw [HLO.out]
          exact ⟨⟨_, rfl⟩, pw_below_drewN (Below.refl _ _) _⟩
      · have hl : isLet c = false := decide_eq_false (by omega)
        have d97 : decide ((97 : Int) ≤ (c.toNat : Int)) = false := decide_eq_false (by omega)
        have d65 : decide ((65 : Int) ≤ (c.toNat : Int)) = false := decide_eq_false (by omega)
        rw [hl, if_neg (by decide)] at HLO
        go_enter Tryd.func47, Tryd.ntmps47
        go_wp2_with fail
        go_quiet (fail)
        go_wp2_with fail
        go_ret2
        unfold LetterSay
        rw [HLO.out]
        exact ⟨⟨_, rfl⟩, pw_below_drewN (Below.refl _ _) _⟩
  · have hlo : letterOf s = none := by
      unfold letterOf
      split
      · rename_i c hc
        exact absurd (by rw [← ByteArray.size_data, ← Array.length_toList, hc]; rfl) h1
      · rfl
    have HLO := Lib.hid hlo
    have hd : ((s.size : Int) == 1) = false := beq_eq_false_iff_ne.2 (by omega)
    have hap : 0 < (s ++ ⟨#[0]⟩ : ByteArray).size := by rw [ByteArray.size_append]; show 0 < s.size + 1; omega
    clear hlo h1
    go_enter Tryd.func47, Tryd.ntmps47
    go_wp2_with fail
    go_quiet (fail)
    go_wp2_with fail
    go_ret2
    unfold LetterSay
    rw [HLO.out]
    exact ⟨⟨_, rfl⟩, pw_below_drewN (Below.refl _ _) _⟩
def endsPick (a b : Int) : Option (Int × Int × Bool) := if ((Go.bits .or .i64 a 32 == a) == (Go.bits .or .i64 b 32 == b)) = true then some (a, b, true) else none
/-- A span's ends: as numbers, or as letters. -/
def endsOf (x y : ByteArray) (is : Bool) : Option (Int × Int × Bool) :=
  if is = true then
    if (boundB x).2 = true ∧ (boundB y).2 = true then some ((boundB x).1, (boundB y).1, false)
    else match letterOf x, letterOf y with
      | some a, some b => endsPick a b
      | _, _ => none
  else none
def EndsSay (r : Option (Int × Int × Bool)) (e : Ending) : Prop := match r with
  | some (a, b, l) => e = .returned (.tuple #[.int .i64 a, .int .i64 b, .bool l, .bool true])
  | none => ∃ a b l, e = .returned (.tuple #[.int .i64 a, .int .i64 b, .bool l, .bool false])
def cutL (s : ByteArray) : ByteArray := ⟨(Lib.cut s.data.toList [46, 46]).1.toArray⟩
def cutR (s : ByteArray) : ByteArray := ⟨(Lib.cut s.data.toList [46, 46]).2.1.toArray⟩
def cutIs (s : ByteArray) : Bool := (Lib.cut s.data.toList [46, 46]).2.2
def ends4 (s : ByteArray) : Option (Int × Int × Bool) := endsOf (cutL s) (cutR s) (cutIs s)
theorem cut_size (s : ByteArray) : (cutL s).size ≤ s.size ∧ (cutR s).size ≤ s.size := by
  have h : (Lib.cut s.data.toList [46, 46]).1.length ≤ s.data.toList.length ∧ (Lib.cut s.data.toList [46, 46]).2.1.length ≤ s.data.toList.length := by
    unfold Lib.cut
    split
    · exact ⟨by rw [List.length_take]; omega, by rw [List.length_drop]; omega⟩
    · exact ⟨Nat.le_refl _, Nat.zero_le _⟩
  rw [data_length] at h
  unfold cutL cutR
  rw [← data_length, ← data_length, List.toList_toArray, List.toList_toArray]
  exact h
set_option maxHeartbeats 4000000 in
theorem ends_calls (s : ByteArray) (w : World) (hmx : MX w) (hs : s.size ≤ 1000000000) : Calls Tryd.prog 38 #[.string s] w fun e w' => EndsSay (ends4 s) e ∧ Below w.heap.size w w' := by
  obtain ⟨m, hm⟩ := hmx
  have HCUT : Hid (Calls Tryd.prog 45 #[.string s, .string ⟨#[46, 46]⟩] w fun e w' => e = .returned (.tuple #[.string (cutL s), .string (cutR s), .bool (cutIs s)]) ∧ Below w.heap.size w w') := by
    refine Lib.hid ((Tryd.strings_Cut s ⟨#[46, 46]⟩ m w (by omega) hm).mono ?_)
    rintro e w' ⟨rfl, n, rfl⟩
    exact ⟨rfl, pw_below_drewN (Below.refl _ _) n⟩
  have HBL := Lib.hid (fun w => bound_calls (cutL s) w (Nat.le_trans (cut_size s).1 hs))
  have HBR := Lib.hid (fun w => bound_calls (cutR s) w (Nat.le_trans (cut_size s).2 hs))
  have HLL := Lib.hid (fun w => letter_calls (cutL s) w (Nat.le_trans (cut_size s).1 hs))
  have HLR := Lib.hid (fun w => letter_calls (cutR s) w (Nat.le_trans (cut_size s).2 hs))
  unfold ends4
  clear hm hs
  generalize cutL s = x at *
  generalize cutR s = y at *
  generalize cutIs s = is at *
  unfold endsOf
  generalize boundB x = bx at *
  generalize boundB y = by_ at *
  generalize letterOf x = lx at *
  generalize letterOf y = ly at *
  obtain ⟨a1, p1⟩ := bx
  obtain ⟨a2, p2⟩ := by_
  dsimp only at *
  cases is with
  | false =>
    rw [if_neg (by decide)]
    go_enter Tryd.func38, Tryd.ntmps38
    go_wp2_with fail
    refine HCUT.out.mono ?_
    rintro e w1 ⟨rfl, hb1⟩
    have HB := Lib.hid hb1
    clear hb1
    go_wp2_with fail
    (try simp only [Exit.inBlock, Exit.then])
    refine bodyPost_ret (results_tmp4 rfl _ _ _) rfl ?_
    exact ⟨⟨_, _, _, rfl⟩, HB.out⟩
  | true =>
    rw [if_pos rfl]
    by_cases hpq : p1 = true ∧ p2 = true
    · obtain ⟨rfl, rfl⟩ := hpq
      rw [if_pos ⟨rfl, rfl⟩]
      go_enter Tryd.func38, Tryd.ntmps38
      go_wp2_with fail
      refine HCUT.out.mono ?_
      rintro e w1 ⟨rfl, hb1⟩
      have HB := Lib.hid hb1
      clear hb1
      go_wp2_with fail
      refine (HBL.out _).mono ?_
      rintro e w2 ⟨rfl, hb2⟩
      have HB := Lib.hid (below_step HB.out hb2)
      clear hb2
      go_wp2_with fail
      refine (HBR.out _).mono ?_
      rintro e w3 ⟨rfl, hb3⟩
      have HB := Lib.hid (below_step HB.out hb3)
      clear hb3
      go_wp2_with fail
      (try simp only [Exit.inBlock, Exit.then])
      refine bodyPost_ret (results_tmp4 rfl _ _ _) rfl ?_
      exact ⟨rfl, HB.out⟩
    · rw [if_neg hpq]
      have hpf : (p1 && p2) = false := by cases p1 <;> cases p2 <;> simp at hpq ⊢
      go_enter Tryd.func38, Tryd.ntmps38
      go_wp2_with fail
      refine HCUT.out.mono ?_
      rintro e w1 ⟨rfl, hb1⟩
      have HB := Lib.hid hb1
      clear hb1
      go_wp2_with fail
      refine (HBL.out _).mono ?_
      rintro e w2 ⟨rfl, hb2⟩
      have HB := Lib.hid (below_step HB.out hb2)
      clear hb2
      go_wp2_with fail
      refine (HBR.out _).mono ?_
      rintro e w3 ⟨rfl, hb3⟩
      have HB := Lib.hid (below_step HB.out hb3)
      clear hb3 hpq
      cases p1
      · cases p2
        · go_wp2_with fail
          refine (HLL.out _).mono ?_
          rintro e w4 ⟨hs4, hb4⟩
          have HB := Lib.hid (below_step HB.out hb4)
          clear hb4
          cases lx with
          | none =>
            obtain ⟨v4, rfl⟩ := hs4
            go_wp2_with fail
            refine (HLR.out _).mono ?_
            rintro e w5 ⟨hs5, hb5⟩
            have HB := Lib.hid (below_step HB.out hb5)
            clear hb5
            cases ly with
            | none =>
              obtain ⟨v5, rfl⟩ := hs5
              go_wp2_with fail
              (try simp only [Exit.inBlock, Exit.then])
              refine bodyPost_ret (results_tmp4 rfl _ _ _) rfl ?_
              exact ⟨⟨_, _, _, rfl⟩, HB.out⟩
            | some b =>
              obtain rfl : e = _ := hs5
              go_wp2_with fail
              (try simp only [Exit.inBlock, Exit.then])
              refine bodyPost_ret (results_tmp4 rfl _ _ _) rfl ?_
              exact ⟨⟨_, _, _, rfl⟩, HB.out⟩
          | some a =>
            obtain rfl : e = _ := hs4
            go_wp2_with fail
            refine (HLR.out _).mono ?_
            rintro e w5 ⟨hs5, hb5⟩
            have HB := Lib.hid (below_step HB.out hb5)
            clear hb5
            cases ly with
            | none =>
              obtain ⟨v5, rfl⟩ := hs5
              go_wp2_with fail
              (try simp only [Exit.inBlock, Exit.then])
              refine bodyPost_ret (results_tmp4 rfl _ _ _) rfl ?_
              exact ⟨⟨_, _, _, rfl⟩, HB.out⟩
            | some b =>
              obtain rfl : e = _ := hs5
              go_wp2_with fail
              (try simp only [Exit.inBlock, Exit.then])
              refine bodyPost_ret (results_tmp4 rfl _ _ _) rfl ?_
              refine ⟨?_, HB.out⟩
              by_cases hq : ((Go.bits .or .i64 a 32 == a) == (Go.bits .or .i64 b 32 == b)) = true
              · have e9 : endsPick a b = some (a, b, true) := if_pos hq
                show EndsSay (endsPick a b) _
                rw [e9]
                exact congrArg (fun z => Ending.returned (Value.tuple #[.int .i64 a, .int .i64 b, .bool true, .bool z])) hq
              · have e9 : endsPick a b = none := if_neg hq
                show EndsSay (endsPick a b) _
                rw [e9]
                exact ⟨_, _, _, congrArg (fun z => Ending.returned (Value.tuple #[.int .i64 a, .int .i64 b, .bool true, .bool z])) (Bool.eq_false_iff.2 hq)⟩
        · go_wp2_with fail
          refine (HLL.out _).mono ?_
          rintro e w4 ⟨hs4, hb4⟩
          have HB := Lib.hid (below_step HB.out hb4)
          clear hb4
          cases lx with
          | none =>
            obtain ⟨v4, rfl⟩ := hs4
            go_wp2_with fail
            refine (HLR.out _).mono ?_
            rintro e w5 ⟨hs5, hb5⟩
            have HB := Lib.hid (below_step HB.out hb5)
            clear hb5
            cases ly with
            | none =>
              obtain ⟨v5, rfl⟩ := hs5
              go_wp2_with fail
              (try simp only [Exit.inBlock, Exit.then])
              refine bodyPost_ret (results_tmp4 rfl _ _ _) rfl ?_
              exact ⟨⟨_, _, _, rfl⟩, HB.out⟩
            | some b =>
              obtain rfl : e = _ := hs5
              go_wp2_with fail
              (try simp only [Exit.inBlock, Exit.then])
              refine bodyPost_ret (results_tmp4 rfl _ _ _) rfl ?_
              exact ⟨⟨_, _, _, rfl⟩, HB.out⟩
          | some a =>
            obtain rfl : e = _ := hs4
            go_wp2_with fail
            refine (HLR.out _).mono ?_
            rintro e w5 ⟨hs5, hb5⟩
            have HB := Lib.hid (below_step HB.out hb5)
            clear hb5
            cases ly with
            | none =>
              obtain ⟨v5, rfl⟩ := hs5
              go_wp2_with fail
              (try simp only [Exit.inBlock, Exit.then])
              refine bodyPost_ret (results_tmp4 rfl _ _ _) rfl ?_
              exact ⟨⟨_, _, _, rfl⟩, HB.out⟩
            | some b =>
              obtain rfl : e = _ := hs5
              go_wp2_with fail
              (try simp only [Exit.inBlock, Exit.then])
              refine bodyPost_ret (results_tmp4 rfl _ _ _) rfl ?_
              refine ⟨?_, HB.out⟩
              by_cases hq : ((Go.bits .or .i64 a 32 == a) == (Go.bits .or .i64 b 32 == b)) = true
              · have e9 : endsPick a b = some (a, b, true) := if_pos hq
                show EndsSay (endsPick a b) _
                rw [e9]
                exact congrArg (fun z => Ending.returned (Value.tuple #[.int .i64 a, .int .i64 b, .bool true, .bool z])) hq
              · have e9 : endsPick a b = none := if_neg hq
                show EndsSay (endsPick a b) _
                rw [e9]
                exact ⟨_, _, _, congrArg (fun z => Ending.returned (Value.tuple #[.int .i64 a, .int .i64 b, .bool true, .bool z])) (Bool.eq_false_iff.2 hq)⟩
      · cases p2
        · go_wp2_with fail
          refine (HLL.out _).mono ?_
          rintro e w4 ⟨hs4, hb4⟩
          have HB := Lib.hid (below_step HB.out hb4)
          clear hb4
          cases lx with
          | none =>
            obtain ⟨v4, rfl⟩ := hs4
            go_wp2_with fail
            refine (HLR.out _).mono ?_
            rintro e w5 ⟨hs5, hb5⟩
            have HB := Lib.hid (below_step HB.out hb5)
            clear hb5
            cases ly with
            | none =>
              obtain ⟨v5, rfl⟩ := hs5
              go_wp2_with fail
              (try simp only [Exit.inBlock, Exit.then])
              refine bodyPost_ret (results_tmp4 rfl _ _ _) rfl ?_
              exact ⟨⟨_, _, _, rfl⟩, HB.out⟩
            | some b =>
              obtain rfl : e = _ := hs5
              go_wp2_with fail
              (try simp only [Exit.inBlock, Exit.then])
              refine bodyPost_ret (results_tmp4 rfl _ _ _) rfl ?_
              exact ⟨⟨_, _, _, rfl⟩, HB.out⟩
          | some a =>
            obtain rfl : e = _ := hs4
            go_wp2_with fail
            refine (HLR.out _).mono ?_
            rintro e w5 ⟨hs5, hb5⟩
            have HB := Lib.hid (below_step HB.out hb5)
            clear hb5
            cases ly with
            | none =>
              obtain ⟨v5, rfl⟩ := hs5
              go_wp2_with fail
              (try simp only [Exit.inBlock, Exit.then])
              refine bodyPost_ret (results_tmp4 rfl _ _ _) rfl ?_
              exact ⟨⟨_, _, _, rfl⟩, HB.out⟩
            | some b =>
              obtain rfl : e = _ := hs5
              go_wp2_with fail
              (try simp only [Exit.inBlock, Exit.then])
              refine bodyPost_ret (results_tmp4 rfl _ _ _) rfl ?_
              refine ⟨?_, HB.out⟩
              by_cases hq : ((Go.bits .or .i64 a 32 == a) == (Go.bits .or .i64 b 32 == b)) = true
              · have e9 : endsPick a b = some (a, b, true) := if_pos hq
                show EndsSay (endsPick a b) _
                rw [e9]
                exact congrArg (fun z => Ending.returned (Value.tuple #[.int .i64 a, .int .i64 b, .bool true, .bool z])) hq
              · have e9 : endsPick a b = none := if_neg hq
                show EndsSay (endsPick a b) _
                rw [e9]
                exact ⟨_, _, _, congrArg (fun z => Ending.returned (Value.tuple #[.int .i64 a, .int .i64 b, .bool true, .bool z])) (Bool.eq_false_iff.2 hq)⟩
        · cases hpf
end Go.Proofs.YtciflnnagkdjiaaDoor.Ext

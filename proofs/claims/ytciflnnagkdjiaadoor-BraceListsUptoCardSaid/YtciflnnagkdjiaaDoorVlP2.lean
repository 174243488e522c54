/- Proved: cowrielaw17.BraceLists' call is true at any texts of at most 1048576 octets. Condition: MaxLen holds a number. -/
import Derived.Test.YtciflnnagkdjiaaDoorVlBrListsPure
import Derived.Test.YtciflnnagkdjiaaDoorVlWLast
import Derived.Test.YtciflnnagkdjiaaDoorVlWMore
set_option linter.unusedVariables false
set_option linter.unusedSimpArgs false
namespace Go.Proofs.YtciflnnagkdjiaaDoor.Ext
open Go.RowKit Go.Proofs.YtciflnnagkdjiaaDoorW.PrintWords Go.Proofs.YtciflnnagkdjiaaDoorW.PrintLast Go.Proofs.YtciflnnagkdjiaaDoorW.PrintMore
attribute [local go_sem] max2_int min2_int max_two min_two max_three min_three max_four min_four
def ba (l : List UInt8) : ByteArray := ⟨l.toArray⟩
theorem ba_app (a b : List UInt8) : ba a ++ ba b = ba (a ++ b) := by
  apply ByteArray.ext
  simp [ba]
theorem ba_len (a : List UInt8) : (ba a).size = a.length := by
  rw [ba_size]
  simp [ba]
def preL (a : List UInt8) (L : List (List UInt8)) (i : Nat) : ByteArray := ba (a ++ 123 :: commasU (L.take i))
theorem pre_zero (a : List UInt8) (L : List (List UInt8)) : ba a ++ ⟨#[123]⟩ = preL a L 0 := ba_app a [123]
theorem pre_one {a : List UInt8} {L : List (List UInt8)} {x : List UInt8} (h : L[0]? = some x) : preL a L 0 ++ ba x = preL a L 1 := by
  obtain ⟨r, rfl⟩ : ∃ r, L = x :: r := by
    cases L with
    | nil => simp at h
    | cons y r => exact ⟨r, by simpa using h⟩
  unfold preL
  rw [ba_app]
  congr 1
  simp [commasU]
theorem pre_next {a : List UInt8} {L : List (List UInt8)} {i : Nat} {x : List UInt8} (h0 : 0 < i) (h : L[i]? = some x) : preL a L i ++ ⟨#[44]⟩ ++ ba x = preL a L (i + 1) := by
  have hlt := (List.getElem?_eq_some_iff.1 h).1
  have ht : L.take (i + 1) = L.take i ++ [x] := by
    rw [List.take_add_one, h]
    rfl
  unfold preL
  rw [show (⟨#[44]⟩ : ByteArray) = ba [44] from rfl, ba_app, ba_app, ht, commasU_snoc _ _ (fun e => by
    have := congrArg List.length e
    rw [List.length_take, List.length_nil] at this
    omega)]
  congr 1
  simp
theorem pre_end (a b : List UInt8) (L : List (List UInt8)) : preL a L L.length ++ ⟨#[125]⟩ ++ ba b = listIn a b L := by
  unfold preL
  rw [show (⟨#[125]⟩ : ByteArray) = ba [125] from rfl, ba_app, ba_app, List.take_length]
  unfold listIn ba
  simp
theorem commasU_len : ∀ (L : List (List UInt8)), (∀ x ∈ L, x.length ≤ 1048576) → (commasU L).length ≤ L.length * 1048577
  | [], _ => by simp [commasU]
  | [x], h => by
    have := h x List.mem_cons_self
    rw [commasU, List.length_singleton]
    omega
  | x :: y :: r, h => by
    have h1 := h x List.mem_cons_self
    have h2 := commasU_len (y :: r) (fun z hz => h z (List.mem_cons_of_mem _ hz))
    rw [List.length_cons] at h2
    rw [commasU, List.length_append, List.length_cons, List.length_cons, List.length_cons]
    omega
theorem pre_size {a : List UInt8} {L : List (List UInt8)} (ha : a.length ≤ 1048576) (hL : ∀ x ∈ L, x.length ≤ 1048576) (hn : L.length ≤ 100) (i : Nat) : (preL a L i).size ≤ 110000000 := by
  have h1 := commasU_len (L.take i) (fun x hx => hL x (List.mem_of_mem_take hx))
  rw [List.length_take] at h1
  unfold preL
  rw [ba_len, List.length_append, List.length_cons]
  have : min i L.length * 1048577 ≤ 100 * 1048577 := Nat.mul_le_mul_right _ (by omega)
  omega
theorem list_len {a b : List UInt8} {L : List (List UInt8)} (ha : a.length ≤ 1048576) (hb : b.length ≤ 1048576) (hL : ∀ x ∈ L, x.length ≤ 1048576) (hn : L.length ≤ 100) : (itemsP [textP (listIn a b L) false]).length ≤ 1000000000 := by
  have hi : itemsP [textP (listIn a b L) false] = (a ++ 123 :: (commasU L ++ 125 :: b)).map ItemS.oct := items_text _
  have h1 := commasU_len L hL
  have : L.length * 1048577 ≤ 100 * 1048577 := Nat.mul_le_mul_right _ hn
  rw [hi, List.length_map]
  simp only [List.length_append, List.length_cons]
  omega
theorem letters_at (s : ByteArray) (hs : s.size ≤ 1048576) (w : World) : Calls Tryd.prog 13 #[.string s] w fun e w' => e = .returned (.string (ba (lowL s))) ∧ Below w.heap.size w w' :=
  P.cowrielaw17_letters.calls _ s _ w (letters_spec s (by omega))
/-- A text that is read. -/
theorem at_T {w : World} {A : Option Addr} {n : Nat} {L : List ByteArray} (h : Kd.C Kd.string w A n L) {j : Nat} {x : ByteArray} (hj : L[j]? = some x) : ∃ ad, A = some ad ∧ w.cell? (ad.add j) = some (.string x) := by
  have hlt := (List.getElem?_eq_some_iff.1 hj).1
  have hn := h.1
  obtain ⟨ad, ha, hc⟩ := h.2.2 (by omega)
  obtain ⟨cs, _, hcs, hcc⟩ := hc j x hj
  have hcs2 : cs = [.string x] := hcs
  subst hcs2
  have g := hcc 0 _ rfl
  have e : ad.add (j * Kd.string.sz + 0) = ad.add j := by
    show ad.add (j * 1 + 0) = ad.add j
    rw [Nat.mul_one, Nat.add_zero]
  rw [e] at g
  exact ⟨ad, ha, g⟩
def lowsOf (l : List ByteArray) : List (List UInt8) := (l.take 100).map lowL
def cowrielaw17_BraceLists.f (l0 : List ByteArray) (a1 a2 : ByteArray) : Option Bool := if l0.all (fun s => decide (s.size ≤ 1048576)) = true ∧ a1.size ≤ 1048576 ∧ a2.size ≤ 1048576 then some true else none
theorem sum_le : ∀ (l : List ByteArray) (s : ByteArray), s ∈ l → s.size ≤ (l.map fun y => y.size + 1).sum
  | x :: l, s, h => by
    rw [List.map_cons, List.sum_cons]
    rcases List.mem_cons.1 h with rfl | h
    · omega
    · have := sum_le l s h
      omega
theorem lists_ok (l : List ByteArray) (a b : ByteArray) (h : (l.map fun y => y.size + 1).sum ≤ 1048576) (ha : a.size ≤ 1048576) (hb : b.size ≤ 1048576) : cowrielaw17_BraceLists.f l a b = some true := by
  unfold cowrielaw17_BraceLists.f
  exact if_pos ⟨List.all_eq_true.2 fun s hs => decide_eq_true (Nat.le_trans (sum_le l s hs) h), ha, hb⟩
set_option maxHeartbeats 8000000 in
set_option maxRecDepth 100000 in
theorem cowrielaw17_BraceLists.calls (A0 : Option Addr) (c0 : Nat) (l0 : List ByteArray) (a1 a2 : ByteArray) (r : Bool) (w : World) (hr0 : Kd.C Kd.string w A0 l0.length l0) (hc0 : l0.length ≤ c0) (hT : MX w) (h : cowrielaw17_BraceLists.f l0 a1 a2 = some r) :
    Calls Tryd.prog 4 #[.slice A0 l0.length c0, .string a1, .string a2] w fun e w' => e = .returned (.bool r) ∧ Below w.heap.size w w' := by
  unfold cowrielaw17_BraceLists.f at h
  split at h
  case isFalse => cases h
  rename_i hh
  obtain ⟨hl0, hs1, hs2⟩ := hh
  obtain rfl := Option.some.inj h
  have hlz : ∀ s ∈ l0, s.size ≤ 1048576 := fun s hs => of_decide_eq_true (List.all_eq_true.1 hl0 s hs)
  have hLz : ∀ x ∈ lowsOf l0, x.length ≤ 1048576 := by
    intro x hx
    obtain ⟨s, hs, rfl⟩ := List.mem_map.1 hx
    exact Nat.le_trans (lowL_len s) (hlz s (List.mem_of_mem_take hs))
  have hLn : (lowsOf l0).length = min l0.length 100 := by
    unfold lowsOf
    rw [List.length_map, List.length_take, Nat.min_comm]
  have hLp : ∀ x ∈ lowsOf l0, plainL x := by
    intro x hx
    obtain ⟨s, hs, rfl⟩ := List.mem_map.1 hx
    exact lowL_plain s
  have hLat : ∀ i s, i < min l0.length 100 → l0[i]? = some s → (lowsOf l0)[i]? = some (lowL s) := by
    intro i s hi hs
    unfold lowsOf
    rw [List.getElem?_map, List.getElem?_take, if_pos (by omega), hs]
    rfl
  have hza := Nat.le_trans (lowL_len a1) hs1
  have hzb := Nat.le_trans (lowL_len a2) hs2
  have hpa := lowL_plain a1
  have hpb := lowL_plain a2
  have HA := Lib.hid (alive_calls w hT)
  have HL1 := Lib.hid (fun W => letters_at a1 hs1 W)
  have HL2 := Lib.hid (fun W => letters_at a2 hs2 W)
  generalize lowL a1 = al at *
  generalize lowL a2 = bl at *
  have hps := fun i => pre_size hza hLz (by omega) i
  have hle := list_len hza hzb hLz (by omega)
  have HLL := Lib.hid (fun s hs W => letters_at s (hlz s hs) W)
  have HN := Lib.hid num_calls
  have HMX := Lib.hid hT
  have HR0 := Lib.hid hr0
  have HPZ := Lib.hid (pre_zero al (lowsOf l0))
  have hsa : (ba al).size ≤ 1048576 := by rw [ba_len]; exact hza
  have hsb : (ba bl).size ≤ 1048576 := by rw [ba_len]; exact hzb
  obtain ⟨n, hn⟩ : ∃ n, n = min l0.length 100 := ⟨_, rfl⟩
  rw [← hn] at hLn hLat
  have HPS := Lib.hid hps
  have HLAT := Lib.hid hLat
  have HLP := Lib.hid hLp
  have HLZ := Lib.hid hLz
  have HSZ := Lib.hid hlz
  have HPA := Lib.hid hpa
  have HPB := Lib.hid hpb
  have HLE := Lib.hid hle
  clear h hl0 hs1 hs2 hlz hLz hLp hLat hza hzb hpa hpb hT hr0 hps hle
  go_enter Tryd.func4, Tryd.ntmps4
  go_wp2_with fail
  refine HA.out.mono ?_
  rintro e w1 ⟨rfl, hb1⟩
  have HB1 := Lib.hid hb1
  clear hb1
  go_wp2_with fail
  refine (HL1.out _).mono ?_
  rintro e w2 ⟨rfl, hb2⟩
  have HB2 := Lib.hid (below_step HB1.out hb2)
  clear hb2
  go_wp2_with fail
  refine (HL2.out _).mono ?_
  rintro e w3 ⟨rfl, hb3⟩
  have HB3 := Lib.hid (below_step HB2.out hb3)
  clear hb3
  go_wp2_with fail
  case' inl => rw [show (100 : Int) = (n : Int) by omega]
  case' inr => rw [show (l0.length : Int) = (n : Int) by omega]
  all_goals (
    rw [HPZ.out]
    have hnl : n ≤ l0.length := by omega
    have hn1 : n ≤ 100 := by omega
    clear hn HPZ
    go_loopw [7, 9] (fun tv iv wr => ∃ i : Nat, tv = .string (preL al (lowsOf l0) i) ∧ iv = .int .i64 (i : Int) ∧ i ≤ n ∧ Below w.heap.size w wr) (fun _ iv _ => n - (intOf iv).toNat)
    case atStart => exact ⟨0, rfl, rfl, Nat.zero_le _, HB3.out⟩
    case round =>
      obtain ⟨i, rfl, rfl, hi, hbr⟩ := hrel
      have HBr := Lib.hid hbr
      clear hbr HB3 HB2 HB1
      by_cases hlt : i < n
      · have hg : l0[i]? = some (l0[i]'(by omega)) := List.getElem?_eq_getElem (by omega)
        obtain ⟨ad, hA, y0⟩ := at_T (Kd.C_below HR0.out HBr.out) hg
        have hx := HLAT.out i _ hlt hg
        have hm := HLL.out _ (List.getElem_mem (show i < l0.length by omega))
        have hz := HLZ.out _ (List.mem_of_getElem? hx)
        generalize l0[i]'(by omega) = s at *
        subst hA
        have HM := Lib.hid hm
        have hp1 := HPS.out i
        have hsx : (ba (lowL s)).size ≤ 1048576 := by rw [ba_len]; exact hz
        rcases Nat.eq_zero_or_pos i with h0 | h0
        · subst h0
          have he := Lib.hid (pre_one (a := al) hx)
          generalize lowL s = x at *
          generalize ba x = X at *
          clear hx hm hz hg
          rw [show ad.add 0 = ad by simp [Addr.add]] at y0
          go_wp2_with fail
          refine (HM.out _).mono ?_
          rintro e w4 ⟨rfl, hb4⟩
          have HB4 := Lib.hid (below_step HBr.out hb4)
          clear hb4
          go_wp2_with fail
          rw [he.out]
          go_roundw
          case rel => exact ⟨0 + 1, rfl, by go_num, by omega, HB4.out⟩
          case measure => simp [intOf]; omega
        · have he := Lib.hid (pre_next (a := al) h0 hx)
          have h0d : decide (0 < i) = true := decide_eq_true h0
          generalize lowL s = x at *
          generalize ba x = X at *
          clear hx hm hz hg
          go_wp2_with fail
          refine (HM.out _).mono ?_
          rintro e w4 ⟨rfl, hb4⟩
          have HB4 := Lib.hid (below_step HBr.out hb4)
          clear hb4
          go_wp2_with fail
          rw [he.out]
          go_roundw
          case rel => exact ⟨i + 1, rfl, by go_num, by omega, HB4.out⟩
          case measure => simp [intOf]; omega
      · have hie : i = n := by omega
        subst hie
        clear hlt
        have hp1 := HPS.out i
        have hpe := pre_end al bl (lowsOf l0)
        rw [hLn] at hpe
        have HPE := Lib.hid hpe
        clear hpe
        go_wp2_with fail
        rw [HPE.out]
        have hba := HBr.out.alloc HBr.out.size (.cells (encP (textP (listIn al bl (lowsOf l0)) false)).toArray 26)
        by_cases h2 : 2 ≤ i
        · have hw := list_words HPA.out HPB.out HLP.out (by omega) (by omega)
          refine (brexpand_calls 2 _ _ [textP (listIn al bl (lowsOf l0)) false] _ _ (HMX.out.below hba) (C_lit wr (textP (listIn al bl (lowsOf l0)) false)) (Nat.le_refl _) HLE.out hw).mono ?_
          rintro e w4 ⟨⟨v, rfl, hR⟩, hb4⟩
          obtain ⟨A1, c1, hv, hc1, hC1⟩ := Kd.R_reads hR
          have hwl : (listWords al bl (lowsOf l0)).length = i := by unfold listWords; rw [List.length_map]; exact hLn
          rw [hwl] at hv hC1 hc1
          subst hv
          have HB4 := Lib.hid (below_step hba hb4)
          have HC4 := Lib.hid hC1
          clear hR hC1 hb4 hba hw hwl HPE HPS HL1 HL2 HA HLE HBr
          have h2d : decide (i < 2) = false := decide_eq_false (by omega)
          go_wp2_with fail
          refine (HN.out _ _).mono ?_
          rintro e w5 ⟨rfl, hb5⟩
          have HB5 := Lib.hid (below_step HB4.out hb5)
          have HC5 := Lib.hid (Kd.C_below HC4.out hb5)
          clear hb5 HB4 HC4
          go_wp2_with fail
          go_loopw [12] (fun iv wq => ∃ j : Nat, iv = .int .i64 (j : Int) ∧ j ≤ i ∧ Below w.heap.size w wq ∧ Kd.C kW wq A1 i (listWords al bl (lowsOf l0))) (fun iv _ => i - (intOf iv).toNat)
          case atStart => exact ⟨0, rfl, Nat.zero_le _, HB5.out, HC5.out⟩
          case round =>
            obtain ⟨j, rfl, hj, hbq, hCq⟩ := hrel
            have HBq := Lib.hid hbq
            have HCq := Lib.hid hCq
            clear hbq hCq HB5 HC5
            by_cases hlt : j < i
            · have hg : l0[j]? = some (l0[j]'(by omega)) := List.getElem?_eq_getElem (by omega)
              obtain ⟨az, hAz, z0⟩ := at_T (Kd.C_below HR0.out HBq.out) hg
              have hx := HLAT.out j _ hlt hg
              have hm := HLL.out _ (List.getElem_mem (show j < l0.length by omega))
              have hz := HLZ.out _ (List.mem_of_getElem? hx)
              generalize l0[j]'(by omega) = s at *
              subst hAz
              have HM := Lib.hid hm
              obtain ⟨q, hq⟩ := word_or (al ++ lowL s ++ bl)
              have hwj : (listWords al bl (lowsOf l0))[j]? = some [textP (ba (al ++ lowL s ++ bl)) q] := by
                unfold listWords
                rw [List.getElem?_map, hx]
                show some (orQuoted (wordP ((al ++ lowL s ++ bl).map ItemS.oct))) = _
                rw [hq]
                rfl
              obtain ⟨ad, A', c', hA1, y0, hc', hCp⟩ := at_W HCq.out hwj
              subst hA1
              obtain ⟨ap, hAp, x0, x1, x2, x3, x4, x5, x6, x7, x8, x9⟩ := at_P hCp (k := 0) rfl
              subst hAp
              rw [show (0 : Nat) * 10 = 0 from rfl, show ap.add 0 = ap by simp [Addr.add]] at x0 x1 x2 x3 x4 x5 x6 x7 x8 x9
              rw [List.length_singleton] at y0
              have hTT : ba al ++ ba (lowL s) ++ ba bl = ba (al ++ lowL s ++ bl) := by rw [ba_app, ba_app]
              have hsx : (ba (lowL s)).size ≤ 1048576 := by rw [ba_len]; exact hz
              have hsT : (ba (al ++ lowL s ++ bl)).size ≤ 4000000 := by
                rw [← hTT, ByteArray.size_append, ByteArray.size_append]
                omega
              replace x1 : wr.cell? ⟨ap.block, ap.off + 1, none⟩ = some (.string (ba (al ++ lowL s ++ bl))) := x1
              generalize ba (al ++ lowL s ++ bl) = T at *
              generalize ba (lowL s) = X at *
              have he0 : (⟨#[]⟩ : ByteArray) ++ T = T := by apply ByteArray.ext; simp
              clear hCp x0 x2 x3 x4 x5 x6 x7 x8 x9 hx hm hz hg hwj hq
              go_wp2_with fail
              go_loopw [13, 14] (fun sv kv wz => (kv = .int .i64 0 ∧ sv = .string ⟨#[]⟩ ∧ wz = wr) ∨ (kv = .int .i64 1 ∧ sv = .string T ∧ wz = wr)) (fun _ kv _ => 1 - (intOf kv).toNat)
              case atStart => exact .inl ⟨rfl, rfl, rfl⟩
              case round =>
                rcases hrel with ⟨rfl, rfl, hwz⟩ | ⟨rfl, rfl, hwz⟩
                · subst hwz
                  go_wp2_with fail
                  go_roundw
                  case rel => exact .inr ⟨by first | trivial | rfl | go_num, by first | trivial | rfl | rw [he0], by first | trivial | rfl⟩
                  case measure => simp [intOf]
                · subst hwz
                  go_wp2_with fail
                  refine (HM.out _).mono ?_
                  rintro e w6 ⟨rfl, hb6⟩
                  have HB6 := Lib.hid (below_step HBq.out hb6)
                  have HC6 := Lib.hid (Kd.C_below HCq.out hb6)
                  clear hb6
                  go_wp2_with fail
                  go_roundw
                  case rel => exact ⟨j + 1, by go_num, by omega, HB6.out, HC6.out⟩
                  case measure => simp [intOf]; omega
            · have hje : j = i := by omega
              subst hje
              clear hlt
              go_wp2_with fail
              go_ret
              exact ⟨rfl, HBq.out⟩
        · obtain ⟨x, hw⟩ := list_one HPA.out HPB.out HLP.out (show (lowsOf l0).length < 2 by omega)
          refine (brexpand_calls 2 _ _ [textP (listIn al bl (lowsOf l0)) false] _ _ (HMX.out.below hba) (C_lit wr (textP (listIn al bl (lowsOf l0)) false)) (Nat.le_refl _) HLE.out hw).mono ?_
          rintro e w4 ⟨⟨v, rfl, hR⟩, hb4⟩
          obtain ⟨A1, c1, hv, hc1, hC1⟩ := Kd.R_reads hR
          rw [List.length_singleton] at hv hC1 hc1
          subst hv
          have HB4 := Lib.hid (below_step hba hb4)
          clear hR hC1 hb4 hba hw HPE HPS HL1 HL2 HA HLE HBr
          have h2d : decide (i < 2) = true := decide_eq_true (by omega)
          go_wp2_with fail
          refine (HN.out _ _).mono ?_
          rintro e w5 ⟨rfl, hb5⟩
          have HB5 := Lib.hid (below_step HB4.out hb5)
          clear hb5 HB4
          go_wp2_with fail
          go_ret
          exact ⟨rfl, HB5.out⟩)
end Go.Proofs.YtciflnnagkdjiaaDoor.Ext
namespace Go.Proofs.YtciflnnagkdjiaaDoor.P
end Go.Proofs.YtciflnnagkdjiaaDoor.P

/- Proved: brace.found's call: the first braces, what is ahead of them, in them, behind them. Conditions: at most 2 to the 40 items; what span tells is known. -/
import Derived.Test.YtciflnnagkdjiaaDoorVsBrPieces
import Derived.Deep.QuietTactic
set_option linter.unusedVariables false
set_option linter.unusedSimpArgs false
namespace Go.Proofs.YtciflnnagkdjiaaDoor.Ext
open Go.RowKit Go.Proofs.YtciflnnagkdjiaaDoorW.PrintWords
/-- internal/bytealg.MaxLen holds a number. -/
def MX (w : World) : Prop := ∃ m, w.cell? ⟨0, 0, none⟩ = some (.int .i64 m)
theorem MX.below {w W : World} (h : MX w) (hb : Below w.heap.size w W) : MX W := by
  obtain ⟨m, hm⟩ := h
  exact ⟨m, (hb.cell (World.block_lt_of_cell? _ _ hm)).trans hm⟩
/-- What span tells of any items. -/
def SpanOk (sp : SpanF) : Prop := ∀ (A : Option Addr) (c : Nat) (l : List ItemS) (w : World), MX w → CI w A l → l.length ≤ c → l.length ≤ 1000000000 →
  Calls Tryd.prog 32 #[.slice A l.length c] w fun e w' => ∃ v, e = .returned v ∧ RRi w' w.heap.size v (sp l) ∧ Below w.heap.size w w'
theorem pieces_bound : ∀ (r : List ItemS) (i fr op : Nat) (out p : List (Nat × Nat)) (n : Nat), piecesGo r i fr op out = some (p, n) → fr ≤ i → (∀ q ∈ out, q.1 ≤ q.2 ∧ q.2 ≤ i) → i ≤ n ∧ n < i + r.length ∧ out.length < p.length ∧ ∀ q ∈ p, q.1 ≤ q.2 ∧ q.2 ≤ n
  | [], _, _, _, _, _, _, h, _, _ => by cases h
  | c :: r, i, fr, op, out, p, n, h, hf, ho => by
    have ho1 : ∀ q ∈ out, q.1 ≤ q.2 ∧ q.2 ≤ i + 1 := fun q hq => ⟨(ho q hq).1, Nat.le_succ_of_le (ho q hq).2⟩
    rw [piecesGo] at h
    rw [List.length_cons]
    split at h
    · obtain ⟨h1, h2, h3, h4⟩ := pieces_bound r (i + 1) fr (op + 1) out p n h (by omega) ho1
      exact ⟨by omega, by omega, h3, h4⟩
    · split at h
      · split at h
        · obtain ⟨h1, h2, h3, h4⟩ := pieces_bound r (i + 1) fr (op - 1) out p n h (by omega) ho1
          exact ⟨by omega, by omega, h3, h4⟩
        · cases h
          refine ⟨Nat.le_refl _, by omega, by simp, fun q hq => ?_⟩
          rcases List.mem_append.1 hq with hq | hq
          · exact ho q hq
          · rw [List.mem_singleton.1 hq]
            exact ⟨hf, Nat.le_refl _⟩
      · split at h
        · obtain ⟨h1, h2, h3, h4⟩ := pieces_bound r (i + 1) (i + 1) op (out ++ [(fr, i)]) p n h (Nat.le_refl _) (fun q hq => by
            rcases List.mem_append.1 hq with hq | hq
            · exact ho1 q hq
            · rw [List.mem_singleton.1 hq]
              exact ⟨hf, Nat.le_succ i⟩)
          rw [List.length_append, List.length_singleton] at h3
          exact ⟨by omega, by omega, by omega, h4⟩
        · obtain ⟨h1, h2, h3, h4⟩ := pieces_bound r (i + 1) fr op out p n h (by omega) ho1
          exact ⟨by omega, by omega, h3, h4⟩
theorem piecesP_bound {l : List ItemS} {p : List (Nat × Nat)} {n : Nat} (h : piecesP l = some (p, n)) : n < l.length ∧ 0 < p.length ∧ ∀ q ∈ p, q.1 ≤ q.2 ∧ q.2 ≤ n := by
  obtain ⟨_, h2, h3, h4⟩ := pieces_bound l 0 0 0 [] p n h (Nat.le_refl _) (fun q hq => by simp at hq)
  exact ⟨by omega, h3, h4⟩
/-- What found tells. -/
def FoundSay (r : Option (Nat × List (List ItemS) × Nat)) (l : List ItemS) (base : Nat) (e : Ending) (w' : World) : Prop := match r with
  | none => e = .returned (.tuple #[.slice none 0 0, .slice none 0 0, .slice none 0 0, .bool false])
  | some (i, q, n) => ∃ v A1 c1 A2 c2 m, m = i + n + 2 ∧ e = .returned (.tuple #[.slice A1 i c1, v, .slice A2 (l.length - m) c2, .bool true]) ∧ RRi w' base v q ∧
      CI w' A1 (l.take i) ∧ i ≤ c1 ∧ CI w' A2 (l.drop m) ∧ l.length - m ≤ c2 ∧ m ≤ l.length
theorem found_next {sp : SpanF} {l r : List ItemS} {x : ItemS} {k : Nat} (hd : l.drop k = x :: r) : foundGo sp l (l.drop k) k = if isB x 123 = true then (match foundAt sp l k with | none => foundGo sp l r (k + 1) | some (q, n) => some (k, q, n)) else foundGo sp l r (k + 1) := by
  rw [hd, foundGo]
  rfl
theorem results_tmp4 {fn : Func} {t u v x : Tmp} (h : fn.results = #[.tmp t, .tmp u, .tmp v, .tmp x]) (tmps : Array Value) (P : Program) (w : World) :
    (results fn tmps).run P w = .ok (.tuple #[tmps.getD t undef, tmps.getD u undef, tmps.getD v undef, tmps.getD x undef]) w := by
  simp [results, h]
theorem wrap_room {k n m L : Nat} (h1 : k < L) (h2 : n < L - (k + 1)) (h3 : L ≤ 1000000000) (h4 : m = k + n + 2) : m ≤ 9223372036854775807 := by omega
theorem wrap_two (k n m : Nat) (hm : m = k + n + 2) (h : m ≤ 9223372036854775807) : wrap64 (wrap64 ((k : Int) + n) + 2) = (m : Int) := by
  have h1 : wrap64 ((k : Int) + n) = k + n := by unfold wrap64; omega
  have h2 : (k : Int) + n + 2 = (m : Int) := by omega
  rw [h1, h2]
  unfold wrap64
  omega
set_option maxHeartbeats 8000000 in
set_option maxRecDepth 100000 in
theorem found_calls (sp : SpanF) (hsp : SpanOk sp) (A : Option Addr) (c : Nat) (l : List ItemS) (w : World) (hmx : MX w) (hr : CI w A l) (hc : l.length ≤ c) (hl : l.length ≤ 1000000000) :
    Calls Tryd.prog 24 #[.slice A l.length c] w fun e w' => FoundSay (foundF sp l) l w.heap.size e w' ∧ Below w.heap.size w w' := by
  have HR := Lib.hid hr
  have HIS := Lib.hid is_calls
  have HPC := Lib.hid pieces_calls
  have HSP := Lib.hid hsp
  have HMX := Lib.hid hmx
  obtain ⟨iI, hiI, hiZ⟩ := Option.map_eq_some_iff.1 infoI
  have hiS : iI.size = 2 := by injection hiZ with _ h; injection h
  have mixed : Tryd.prog.follows Departure.mixedOrders = true := by kernel_rfl
  clear hiZ hr hsp hmx
  go_enter Tryd.func24, Tryd.ntmps24
  go_wp2_with fail
  go_loopw [13] (fun i wr => ∃ (k : Nat), k ≤ l.length ∧ i = .int .i64 k ∧ foundGo sp l (l.drop k) k = foundF sp l ∧ Below w.heap.size w wr) (fun i _ => l.length - (intOf i).toNat)
  case atStart => exact ⟨0, Nat.zero_le _, rfl, rfl, Below.refl _ _⟩
  case round =>
    obtain ⟨k, hk, rfl, hP, hb⟩ := hrel
    have HB := Lib.hid hb
    have HP := Lib.hid hP
    clear hP
    by_cases hlt : k < l.length
    · have hdr : l.drop k = l[k] :: l.drop (k + 1) := List.drop_eq_getElem_cons hlt
      have HPG := HP.out
      rw [found_next hdr] at HPG
      obtain ⟨ad, u, v, rfl, y0, y1, hK⟩ := at_I (HR.out.below hb).c (List.getElem?_eq_getElem hlt)
      generalize l[k] = x at *
      have HX := Lib.hid (BoxI.of hb hK)
      clear hdr HP hb hK
      have HC1 := Lib.hid (fun w => HIS.out x 123 (.int .u8 u) (.pointer v) w)
      have HPG := Lib.hid HPG
      by_cases h1 : isB x 123 = true
      · have e1 := HPG.out
        rw [if_pos h1] at e1
        rw [h1] at HC1
        have HPE := Lib.hid e1
        have hcut := cut_from (P := Tryd.prog) 53 70 .i64 Tryd.underlying53 hiI 2 hiS (some ad) l.length c ((k : Int) + 1) (by omega) (by omega)
        rw [show ((k : Int) + 1).toNat = k + 1 by omega] at hcut
        obtain ⟨A1, hA1⟩ : ∃ A1, A1 = (if c = k + 1 then some ad else (some ad).map (·.add ((k + 1) * 2))) := ⟨_, rfl⟩
        rw [← hA1] at hcut
        have HCD := Lib.hid (CI_drop (k := k + 1) (c := c) HR.out hc (by omega))
        have hdl : l.length - (k + 1) = (l.drop (k + 1)).length := List.length_drop.symm
        rw [show (if c = k + 1 then some ad else Option.map (fun x => x.add ((k + 1) * 2)) (some ad)) = A1 from hA1.symm] at HCD
        have HPC1 := Lib.hid (HPC.out A1 (c - (k + 1)) (l.drop (k + 1)))
        rw [← hdl] at HPC1
        clear hdl
        have HA1 := Lib.hid hA1
        have HLT := Lib.hid hlt
        have hi1 : ((k : Int) + 1).toNat = k + 1 := by omega
        clear e1 h1 hA1 hlt hk hi1
        go_wp2_with fail
        refine (HC1.out _ HX.out.item).mono ?_
        rintro e w1 ⟨rfl, hb1⟩
        have HX := Lib.hid (HX.out.next hb1)
        have HX1 := Lib.hid HX.out
        clear hb1
        go_wp2_with fail
        have hlt := HLT.out
        refine (HPC1.out _ (HCD.out.below HX.out.bel) (by omega) (by omega)).mono ?_
        rintro e w2 ⟨hs, hb2⟩
        have HX := Lib.hid (HX.out.next hb2)
        have hws : w.heap.size ≤ w1.heap.size := by
          have := HX1.out.bel.size
          exact this
        cases hpp : piecesP (l.drop (k + 1)) with
        | none =>
          rw [hpp] at hs
          obtain rfl : e = _ := hs
          have hfa : foundAt sp l k = none := by unfold foundAt; rw [hpp]
          have e2 := HPE.out
          rw [hfa] at e2
          have HPE := Lib.hid e2
          clear hb2 hfa e2 hpp
          go_wp2_with fail
          go_roundw
          case rel => exact ⟨k + 1, by omega, by go_num, HPE.out, HX.out.bel⟩
          case measure => simp [intOf]; omega
        | some pn =>
          obtain ⟨p, n⟩ := pn
          rw [hpp] at hs
          obtain ⟨v2, rfl, hr2⟩ := hs
          obtain ⟨hn, hp0, hpb⟩ := piecesP_bound hpp
          have hsl2 := hr2.slice
          rw [List.length_map] at hsl2
          obtain ⟨Ap, cp, rfl, hcp⟩ := hsl2
          have HPB := Lib.hid hpb
          rw [List.length_drop] at hn
          have hr2 := hr2.lower hws
          have hbs := hb2.size
          have HP2 := Lib.hid hr2
          clear hb2 hpb hr2
          by_cases hp1 : p.length = 1
          · obtain ⟨q, rfl⟩ := List.length_eq_one_iff.1 hp1
            have hfa : foundAt sp l k = if (sp (subL (l.drop (k + 1)) q)).length = 0 then none else some (sp (subL (l.drop (k + 1)) q), n) := by
              unfold foundAt
              rw [hpp]
              rfl
            have HFA := Lib.hid hfa
            obtain ⟨aq, Aq, cq, rfl, hq1, hq2, hq3⟩ := HP2.out.at 0 rfl
            have HQ3 := Lib.hid hq3
            rw [show aq.add 0 = aq by simp [Addr.add]] at hq1
            have hsl : (subL (l.drop (k + 1)) q).length ≤ 1000000000 := by
              unfold subL
              rw [List.length_drop, List.length_take, List.length_drop]
              omega
            clear hfa hq3 hpp hp1
            rw [List.length_singleton] at hcp HP2
            go_wp2_with fail
            refine (HSP.out Aq cq (subL (l.drop (k + 1)) q) _ (HMX.out.below HX.out.bel) HQ3.out hq2 hsl).mono ?_
            rintro e w3 ⟨v3, rfl, hr3, hb3⟩
            have HX := Lib.hid (HX.out.next hb3)
            have hws3 : w.heap.size ≤ w2.heap.size := Nat.le_trans hws hbs
            obtain ⟨A4, c4, rfl, hc4⟩ := hr3.slice
            have hr3 := hr3.lower hws3
            clear hb3
            generalize hsq : sp (subL (l.drop (k + 1)) q) = sq at *
            by_cases hz : sq.length = 0
            · have e2 := HPE.out
              rw [HFA.out, if_pos hz] at e2
              have HPE := Lib.hid e2
              rw [hz] at hr3 hc4
              rw [hz]
              clear e2 hsq hr3
              go_wp2_with fail
              go_roundw
              case rel => exact ⟨k + 1, by omega, by go_num, HPE.out, HX.out.bel⟩
              case measure => simp [intOf]; omega
            · have e2 := HPE.out
              rw [HFA.out, if_neg hz] at e2
              have HPE := Lib.hid e2
              have hpos : 0 < sq.length := by omega
              have HO := Lib.hid hr3
              clear e2 hsq hr3 hz
              have hcut2 := cut_to (P := Tryd.prog) 53 70 .i64 Tryd.underlying53 hiI (some ad) l.length c (k : Int) (by omega) (by omega) hc
              rw [Int.toNat_natCast] at hcut2
              obtain ⟨m, hm⟩ : ∃ m : Nat, m = k + n + 2 := ⟨_, rfl⟩
              have HM := Lib.hid hm
              have hcut3 := cut_from (P := Tryd.prog) 53 70 .i64 Tryd.underlying53 hiI 2 hiS (some ad) l.length c (m : Int) (by omega) (by omega)
              rw [Int.toNat_natCast] at hcut3
              obtain ⟨A3, hA3⟩ : ∃ A3, A3 = (if c = m then some ad else (some ad).map (·.add (m * 2))) := ⟨_, rfl⟩
              rw [← hA3] at hcut3
              have HA3 := Lib.hid hA3
              have HN := Lib.hid hn
              clear hA3 hn hlt hm
              go_wp2_with fail
              have hw1 : wrap64 (wrap64 ((k : Int) + n) + 2) = (m : Int) := wrap_two k n m HM.out (wrap_room HLT.out HN.out hl HM.out)
              go_quiet (fail)
              go_wp2_with fail
              (try simp only [Exit.inBlock, Exit.then])
              refine bodyPost_ret (results_tmp4 rfl _ _ _) rfl ?_
              unfold FoundSay
              rw [← HPE.out]
              have hlt := HLT.out
              have hn := HN.out
              have hm := HM.out
              have hC1 := CI_take (k := k) (HR.out.below HX.out.bel) (by omega)
              have hC2 := CI_drop (k := m) (c := c) (HR.out.below HX.out.bel) hc (by omega)
              have e1 : (l.take k).length = k := by rw [List.length_take]; omega
              have e2 : (l.drop m).length = l.length - m := List.length_drop
              exact ⟨⟨_, some ad, c, A3, c - m, m, hm, rfl, RRg.below HO.out (pw_below_drewN (Below.refl _ _) _), CT.below hC1 (pw_below_drewN (Below.refl _ _) _), by omega, by rw [HA3.out]; exact CT.below hC2 (pw_below_drewN (Below.refl _ _) _), by omega, by omega⟩, pw_below_drewN HX.out.bel _⟩
          · have hfa : foundAt sp l k = some (p.map (subL (l.drop (k + 1))), n) := by
              unfold foundAt
              rw [hpp]
              exact if_neg hp1
            have e2 := HPE.out
            rw [hfa] at e2
            have HPE := Lib.hid e2
            have HO := Lib.hid HP2.out
            have hne1 : ((p.length : Int) == 1) = false := beq_eq_false_iff_ne.2 (by omega)
            have hpos : decide ((p.length : Int) > 0) = true := decide_eq_true (by omega)
            clear e2 hfa hpp hp1
            have hcut2 := cut_to (P := Tryd.prog) 53 70 .i64 Tryd.underlying53 hiI (some ad) l.length c (k : Int) (by omega) (by omega) hc
            rw [Int.toNat_natCast] at hcut2
            obtain ⟨m, hm⟩ : ∃ m : Nat, m = k + n + 2 := ⟨_, rfl⟩
            have HM := Lib.hid hm
            have hcut3 := cut_from (P := Tryd.prog) 53 70 .i64 Tryd.underlying53 hiI 2 hiS (some ad) l.length c (m : Int) (by omega) (by omega)
            rw [Int.toNat_natCast] at hcut3
            obtain ⟨A3, hA3⟩ : ∃ A3, A3 = (if c = m then some ad else (some ad).map (·.add (m * 2))) := ⟨_, rfl⟩
            rw [← hA3] at hcut3
            have HA3 := Lib.hid hA3
            have HN := Lib.hid hn
            clear hA3 hn hlt hm
            go_wp2_with fail
            have hw1 : wrap64 (wrap64 ((k : Int) + n) + 2) = (m : Int) := wrap_two k n m HM.out (wrap_room HLT.out HN.out hl HM.out)
            go_quiet (fail)
            go_wp2_with fail
            (try simp only [Exit.inBlock, Exit.then])
            refine bodyPost_ret (results_tmp4 rfl _ _ _) rfl ?_
            unfold FoundSay
            rw [← HPE.out]
            have hlt := HLT.out
            have hn := HN.out
            have hm := HM.out
            have hC1 := CI_take (k := k) (HR.out.below HX.out.bel) (by omega)
            have hC2 := CI_drop (k := m) (c := c) (HR.out.below HX.out.bel) hc (by omega)
            have e1 : (l.take k).length = k := by rw [List.length_take]; omega
            have e2 : (l.drop m).length = l.length - m := List.length_drop
            exact ⟨⟨_, some ad, c, A3, c - m, m, hm, rfl, RRg.below HO.out (pw_below_drewN (Below.refl _ _) _), CT.below hC1 (pw_below_drewN (Below.refl _ _) _), by omega, by rw [HA3.out]; exact CT.below hC2 (pw_below_drewN (Below.refl _ _) _), by omega, by omega⟩, pw_below_drewN HX.out.bel _⟩
      · have e1 := HPG.out
        rw [if_neg h1] at e1
        rw [show isB x 123 = false by simpa using h1] at HC1
        have HPE := Lib.hid e1
        clear e1 h1
        go_wp2_with fail
        refine (HC1.out _ HX.out.item).mono ?_
        rintro e w1 ⟨rfl, hb1⟩
        have HX := Lib.hid (HX.out.next hb1)
        clear hb1
        go_wp2_with fail
        go_roundw
        case rel => exact ⟨k + 1, by omega, by go_num, HPE.out, HX.out.bel⟩
        case measure => simp [intOf]; omega
    · have hke : k = l.length := by omega
      subst hke
      have hP := HP.out
      rw [List.drop_length, foundGo] at hP
      have HP := Lib.hid hP
      clear hP hb
      go_wp2_with fail
      (try simp only [Exit.inBlock, Exit.then])
      refine bodyPost_ret (results_tmp4 rfl _ _ _) rfl ?_
      unfold FoundSay
      rw [← HP.out]
      exact ⟨rfl, HB.out⟩
end Go.Proofs.YtciflnnagkdjiaaDoor.Ext

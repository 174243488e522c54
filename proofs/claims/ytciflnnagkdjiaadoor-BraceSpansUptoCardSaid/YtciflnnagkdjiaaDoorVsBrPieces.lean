/- Proved: brace.pieces' call: the pieces between commas, up to the }. Condition: at most 2 to the 40 items. -/
import Derived.Test.YtciflnnagkdjiaaDoorVsBrPure
set_option linter.unusedVariables false
set_option linter.unusedSimpArgs false
namespace Go.Proofs.YtciflnnagkdjiaaDoor.Ext
open Go.RowKit Go.Proofs.YtciflnnagkdjiaaDoorW.PrintWords
theorem infoL : (Tryd.prog.info? 53).map (fun i => (i.zero, i.size, i.bytes)) = some (some (.slice none 0 0), 1, 24) := by kernel_rfl
theorem sub_len {l : List ItemS} {a b : Nat} (h1 : a ≤ b) (h2 : b ≤ l.length) : (subL l (a, b)).length = b - a := by
  unfold subL
  rw [List.length_drop, List.length_take]
  omega
theorem inner_mid {W : World} {A : Option Addr} {c : Nat} {l : List ItemS} {fr k : Nat} (hr : CI W A l) (hc : l.length ≤ c) (h1 : fr ≤ k) (h2 : k ≤ l.length) :
    Inner kI 70 W (subL l (fr, k)) [.slice (if c = fr then A else A.map (·.add (fr * 2))) (k - fr) (c - fr)] := by
  have hl := sub_len h1 h2
  refine ⟨_, _, by rw [hl], by omega, ?_, fun hp a ha => ?_⟩
  · have := Kd.C_mid (lo := fr) (hi := k) (c := c) hr.c h1 h2 hc
    exact this
  · rw [hl] at hp
    rw [if_neg (by omega)] at ha
    obtain ⟨b, rfl, rfl⟩ := Option.map_eq_some_iff.1 ha
    rw [add_block]
    exact hr.ty (by omega) b rfl
theorem CI_drop {W : World} {A : Option Addr} {c : Nat} {l : List ItemS} {k : Nat} (hr : CI W A l) (hc : l.length ≤ c) (h2 : k ≤ l.length) : CI W (if c = k then A else A.map (·.add (k * 2))) (l.drop k) := by
  refine ⟨Kd.C_drop (m := k) (c := c) hr.c h2 hc, fun hp a ha => ?_⟩
  rw [List.length_drop] at hp
  rw [if_neg (by omega)] at ha
  obtain ⟨b, rfl, rfl⟩ := Option.map_eq_some_iff.1 ha
  rw [add_block]
  exact hr.ty (by omega) b rfl
theorem CI_take {W : World} {A : Option Addr} {l : List ItemS} {k : Nat} (hr : CI W A l) (h2 : k ≤ l.length) : CI W A (l.take k) :=
  ⟨Kd.C_take hr.c h2, fun hp a ha => hr.ty (by rw [List.length_take] at hp; omega) a ha⟩
/-- An item that stands in a box. -/
structure BoxI (w0 W : World) (g : Nat) (x : ItemS) (n : Int) (o : Option Addr) : Prop where
  blk : W.heap[g]? = some (.cells #[.int .u8 n, .pointer o] 70 (0, 0))
  item : ItemK W x [.int .u8 n, .pointer o]
  bel : Below w0.heap.size w0 W
section
variable {w0 W w1 : World} {g : Nat} {x : ItemS} {n : Int} {o : Option Addr}
theorem BoxI.c0 (h : BoxI w0 W g x n o) : W.cell? ⟨g, 0, none⟩ = some (.int .u8 n) := blk_cell h.blk 0
theorem BoxI.c1 (h : BoxI w0 W g x n o) : W.cell? ⟨g, 1, none⟩ = some (.pointer o) := blk_cell h.blk 1
theorem BoxI.next (h : BoxI w0 W g x n o) (hb : Below W.heap.size W w1) : BoxI w0 w1 g x n o :=
  ⟨(hb.block g (blk_lt h.blk)).trans h.blk, kI.K_below hb h.item, below_step h.bel hb⟩
theorem BoxI.of (hb : Below w0.heap.size w0 W) (hK : ItemK W x [.int .u8 n, .pointer o]) : BoxI w0 (W.alloc (.cells #[.int .u8 n, .pointer o] 70)) W.heap.size x n o :=
  ⟨heap_alloc_new W _, kI.K_below ((Below.refl _ W).alloc (Nat.le_refl _) _) hK, hb.alloc hb.size _⟩
end
/-- What pieces tells. -/
def PiecesSay (r : Option (List (Nat × Nat) × Nat)) (l : List ItemS) (base : Nat) (e : Ending) (w' : World) : Prop := match r with
  | none => e = .returned (.tuple #[.slice none 0 0, .int .i64 0, .bool false])
  | some (p, n) => ∃ v, e = .returned (.tuple #[v, .int .i64 (n : Int), .bool true]) ∧ RRi w' base v (p.map (subL l))
set_option maxHeartbeats 8000000 in
set_option maxRecDepth 100000 in
theorem pieces_calls (A : Option Addr) (c : Nat) (l : List ItemS) (w : World) (hr : CI w A l) (hc : l.length ≤ c) (hl : l.length ≤ 1099511627776) :
    Calls Tryd.prog 31 #[.slice A l.length c] w fun e w' => PiecesSay (piecesP l) l w.heap.size e w' ∧ Below w.heap.size w w' := by
  have HR := Lib.hid hr
  have HIS := Lib.hid is_calls
  obtain ⟨iI, hiI, hiZ⟩ := Option.map_eq_some_iff.1 infoI
  have hiS : iI.size = 2 := by injection hiZ with _ h; injection h
  clear hiZ
  clear hr
  go_enter Tryd.func31, Tryd.ntmps31
  go_wp2_with fail
  go_loopw [5, 6, 7, 12] (fun out fr op i wr => ∃ (k f o : Nat) (ps : List (Nat × Nat)), k ≤ l.length ∧ f ≤ k ∧ o ≤ k ∧ ps.length ≤ k ∧ fr = .int .i64 f ∧ op = .int .i64 o ∧ i = .int .i64 k ∧ RRi wr w.heap.size out (ps.map (subL l)) ∧ piecesGo (l.drop k) k f o ps = piecesP l ∧ Below w.heap.size w wr) (fun _ _ _ i _ => l.length - (intOf i).toNat)
  case atStart => exact ⟨0, 0, 0, [], Nat.zero_le _, Nat.le_refl _, Nat.le_refl _, Nat.le_refl _, rfl, rfl, rfl, RRg.nil _ _ _ _ _, rfl, Below.refl _ _⟩
  case round =>
    obtain ⟨k, f, o, ps, hk, hf, ho, hps, rfl, rfl, rfl, hR, hP, hb⟩ := hrel
    have HO := Lib.hid hR
    have HB := Lib.hid hb
    have HP := Lib.hid hP
    clear hP hR
    by_cases hlt : k < l.length
    · have hdr : l.drop k = l[k] :: l.drop (k + 1) := List.drop_eq_getElem_cons hlt
      have HPG := HP.out
      rw [hdr, piecesGo] at HPG
      obtain ⟨ad, u, v, rfl, y0, y1, hK⟩ := at_I (HR.out.below hb).c (List.getElem?_eq_getElem hlt)
      generalize l[k] = x at *
      have HX := Lib.hid (BoxI.of hb hK)
      have HO := Lib.hid (HO.out.below ((Below.refl _ wr).alloc (Nat.le_refl _) (.cells #[.int .u8 u, .pointer v] 70)))
      clear hdr HP hb hK
      have HC1 := Lib.hid (fun w => HIS.out x 123 (.int .u8 u) (.pointer v) w)
      have HC2 := Lib.hid (fun w => HIS.out x 125 (.int .u8 u) (.pointer v) w)
      have HC3 := Lib.hid (fun w => HIS.out x 44 (.int .u8 u) (.pointer v) w)
      have HPG := Lib.hid HPG
      by_cases h1 : isB x 123 = true
      · have e1 := HPG.out
        rw [if_pos h1] at e1
        have HPE := Lib.hid e1
        rw [h1] at HC1
        clear e1 h1
        go_wp2_with fail
        refine (HC1.out _ HX.out.item).mono ?_
        rintro e w1 ⟨rfl, hb1⟩
        have HX := Lib.hid (HX.out.next hb1)
        have HO := Lib.hid (HO.out.below hb1)
        have z0 := HX.out.c0
        have z1 := HX.out.c1
        clear hb1
        go_wp2_with fail
        go_roundw
        case rel => exact ⟨k + 1, f, o + 1, ps, by omega, by omega, by omega, by first | omega | (rw [List.length_append, List.length_singleton]; omega), by first | rfl | go_num, by first | rfl | go_num, by go_num, HO.out, HPE.out, HX.out.bel⟩
        case measure => simp [intOf]; omega
      · have e1 := HPG.out
        rw [if_neg h1] at e1
        rw [show isB x 123 = false by simpa using h1] at HC1
        by_cases h2 : isB x 125 = true
        · rw [if_pos h2] at e1
          rw [h2] at HC2
          by_cases h3 : 0 < o
          · rw [if_pos h3] at e1
            have HPE := Lib.hid e1
            have hd : decide ((o : Int) > 0) = true := decide_eq_true (by omega)
            clear e1 h1 h2
            go_wp2_with fail
            refine (HC1.out _ HX.out.item).mono ?_
            rintro e w1 ⟨rfl, hb1⟩
            have HX := Lib.hid (HX.out.next hb1)
            have HO := Lib.hid (HO.out.below hb1)
            have z0 := HX.out.c0
            have z1 := HX.out.c1
            clear hb1
            go_wp2_with fail
            refine (HC2.out _ HX.out.item).mono ?_
            rintro e w2 ⟨rfl, hb2⟩
            have HX := Lib.hid (HX.out.next hb2)
            have HO := Lib.hid (HO.out.below hb2)
            have z0 := HX.out.c0
            have z1 := HX.out.c1
            clear hb2
            go_wp2_with fail
            go_roundw
            case rel => exact ⟨k + 1, f, o - 1, ps, by omega, by omega, by omega, by first | omega | (rw [List.length_append, List.length_singleton]; omega), by first | rfl | go_num, by first | rfl | go_num, by go_num, HO.out, HPE.out, HX.out.bel⟩
            case measure => simp [intOf]; omega
          · rw [if_neg h3] at e1
            have HPE := Lib.hid e1
            obtain rfl : o = 0 := by omega
            clear e1 h1 h2
            go_wp2_with fail
            refine (HC1.out _ HX.out.item).mono ?_
            rintro e w1 ⟨rfl, hb1⟩
            have HX := Lib.hid (HX.out.next hb1)
            have HO := Lib.hid (HO.out.below hb1)
            have z0 := HX.out.c0
            have z1 := HX.out.c1
            clear hb1
            go_wp2_with fail
            refine (HC2.out _ HX.out.item).mono ?_
            rintro e w2 ⟨rfl, hb2⟩
            have HX := Lib.hid (HX.out.next hb2)
            have HO := Lib.hid (HO.out.below hb2)
            have z0 := HX.out.c0
            have z1 := HX.out.c1
            clear hb2
            go_wp2_with fail
            refine (HC2.out _ HX.out.item).mono ?_
            rintro e w3 ⟨rfl, hb3⟩
            have HX := Lib.hid (HX.out.next hb3)
            have HO := Lib.hid (HO.out.below hb3)
            have z0 := HX.out.c0
            have z1 := HX.out.c1
            clear hb3
            obtain ⟨A', hA'⟩ : ∃ A', A' = (if c = f then some ad else (some ad).map (·.add (f * 2))) := ⟨_, rfl⟩
            have hcut := cut_mid (P := Tryd.prog) 53 70 .i64 .i64 Tryd.underlying53 hiI 2 hiS (some ad) l.length c (f : Int) (k : Int) (by omega) (by omega) (by omega) hc
            simp only [Int.toNat_natCast] at hcut
            rw [← hA'] at hcut
            have HHA := Lib.hid hA'
            clear hA'
            go_wp2_with (at_builtin; go_loud (refine RRg_append kI (w0 := w) w.heap.size rfl (.tmp 34) (.tmp 39) 55 70 53 kI_stays (by decide) rfl Tryd.underlying55 infoL _ (ps.map (subL l)) (subL l (f, k)) (.slice A' (k - f) (c - f)) rfl ?aX ?aO ?aI ?aB ?aS ?aL ?_))
            case aX => rfl
            case aO => exact HO.out
            case aI =>
              rw [HHA.out]
              exact inner_mid (HR.out.below HX.out.bel) hc hf hk
            case aB => exact HX.out.bel
            case aS => exact HX.out.bel.size
            case aL => rw [List.length_map]; omega
            intro v3 w3 hr3 hb3 hg3 _
            have hr3 : RRi w3 w.heap.size v3 ((ps ++ [(f, k)]).map (subL l)) := by rw [List.map_append, List.map_singleton]; exact hr3
            have HO := Lib.hid hr3
            have HB3 := Lib.hid hb3
            clear hr3 hb3 hg3 hcut
            go_wp2_with fail
            go_ret3
            unfold PiecesSay
            rw [← HPE.out]
            exact ⟨⟨_, rfl, HO.out⟩, HB3.out⟩
        · rw [if_neg h2] at e1
          rw [show isB x 125 = false by simpa using h2] at HC2
          by_cases h3 : isB x 44 = true ∧ o = 0
          · rw [if_pos h3] at e1
            rw [h3.1] at HC3
            obtain rfl := h3.2
            have HPE := Lib.hid e1
            clear e1 h1 h2 h3
            go_wp2_with fail
            refine (HC1.out _ HX.out.item).mono ?_
            rintro e w1 ⟨rfl, hb1⟩
            have HX := Lib.hid (HX.out.next hb1)
            have HO := Lib.hid (HO.out.below hb1)
            have z0 := HX.out.c0
            have z1 := HX.out.c1
            clear hb1
            go_wp2_with fail
            refine (HC2.out _ HX.out.item).mono ?_
            rintro e w2 ⟨rfl, hb2⟩
            have HX := Lib.hid (HX.out.next hb2)
            have HO := Lib.hid (HO.out.below hb2)
            have z0 := HX.out.c0
            have z1 := HX.out.c1
            clear hb2
            go_wp2_with fail
            refine (HC2.out _ HX.out.item).mono ?_
            rintro e w3 ⟨rfl, hb3⟩
            have HX := Lib.hid (HX.out.next hb3)
            have HO := Lib.hid (HO.out.below hb3)
            have z0 := HX.out.c0
            have z1 := HX.out.c1
            clear hb3
            go_wp2_with fail
            refine (HC3.out _ HX.out.item).mono ?_
            rintro e w4 ⟨rfl, hb4⟩
            have HX := Lib.hid (HX.out.next hb4)
            have HO := Lib.hid (HO.out.below hb4)
            have z0 := HX.out.c0
            have z1 := HX.out.c1
            clear hb4
            obtain ⟨A', hA'⟩ : ∃ A', A' = (if c = f then some ad else (some ad).map (·.add (f * 2))) := ⟨_, rfl⟩
            have hcut := cut_mid (P := Tryd.prog) 53 70 .i64 .i64 Tryd.underlying53 hiI 2 hiS (some ad) l.length c (f : Int) (k : Int) (by omega) (by omega) (by omega) hc
            simp only [Int.toNat_natCast] at hcut
            rw [← hA'] at hcut
            have HHA := Lib.hid hA'
            clear hA'
            go_wp2_with (at_builtin; go_loud (refine RRg_append kI (w0 := w) w.heap.size rfl (.tmp 49) (.tmp 54) 55 70 53 kI_stays (by decide) rfl Tryd.underlying55 infoL _ (ps.map (subL l)) (subL l (f, k)) (.slice A' (k - f) (c - f)) rfl ?aX ?aO ?aI ?aB ?aS ?aL ?_))
            case aX => rfl
            case aO => exact HO.out
            case aI =>
              rw [HHA.out]
              exact inner_mid (HR.out.below HX.out.bel) hc hf hk
            case aB => exact HX.out.bel
            case aS => exact HX.out.bel.size
            case aL => rw [List.length_map]; omega
            intro v3 w3 hr3 hb3 hg3 _
            have hr3 : RRi w3 w.heap.size v3 ((ps ++ [(f, k)]).map (subL l)) := by rw [List.map_append, List.map_singleton]; exact hr3
            have HO := Lib.hid hr3
            have HB3 := Lib.hid hb3
            clear hr3 hb3 hg3 hcut
            go_wp2_with fail
            go_roundw
            case rel => exact ⟨k + 1, k + 1, 0, ps ++ [(f, k)], by omega, by omega, by omega, by rw [List.length_append, List.length_singleton]; omega, by go_num, rfl, by go_num, HO.out, HPE.out, HB3.out⟩
            case measure => simp [intOf]; omega
          · rw [if_neg h3] at e1
            have HPE := Lib.hid e1
            clear e1 h1 h2
            by_cases h4 : isB x 44 = true
            · rw [h4] at HC3
              have hd : ((o : Int) == 0) = false := beq_eq_false_iff_ne.2 (fun e => h3 ⟨h4, by omega⟩)
              clear h3 h4
              go_wp2_with fail
              refine (HC1.out _ HX.out.item).mono ?_
              rintro e w1 ⟨rfl, hb1⟩
              have HX := Lib.hid (HX.out.next hb1)
              have HO := Lib.hid (HO.out.below hb1)
              have z0 := HX.out.c0
              have z1 := HX.out.c1
              clear hb1
              go_wp2_with fail
              refine (HC2.out _ HX.out.item).mono ?_
              rintro e w2 ⟨rfl, hb2⟩
              have HX := Lib.hid (HX.out.next hb2)
              have HO := Lib.hid (HO.out.below hb2)
              have z0 := HX.out.c0
              have z1 := HX.out.c1
              clear hb2
              go_wp2_with fail
              refine (HC2.out _ HX.out.item).mono ?_
              rintro e w3 ⟨rfl, hb3⟩
              have HX := Lib.hid (HX.out.next hb3)
              have HO := Lib.hid (HO.out.below hb3)
              have z0 := HX.out.c0
              have z1 := HX.out.c1
              clear hb3
              go_wp2_with fail
              refine (HC3.out _ HX.out.item).mono ?_
              rintro e w4 ⟨rfl, hb4⟩
              have HX := Lib.hid (HX.out.next hb4)
              have HO := Lib.hid (HO.out.below hb4)
              have z0 := HX.out.c0
              have z1 := HX.out.c1
              clear hb4
              go_wp2_with fail
              go_roundw
              case rel => exact ⟨k + 1, f, o, ps, by omega, by omega, by omega, by first | omega | (rw [List.length_append, List.length_singleton]; omega), by first | rfl | go_num, by first | rfl | go_num, by go_num, HO.out, HPE.out, HX.out.bel⟩
              case measure => simp [intOf]; omega
            · rw [show isB x 44 = false by simpa using h4] at HC3
              clear h3 h4
              go_wp2_with fail
              refine (HC1.out _ HX.out.item).mono ?_
              rintro e w1 ⟨rfl, hb1⟩
              have HX := Lib.hid (HX.out.next hb1)
              have HO := Lib.hid (HO.out.below hb1)
              have z0 := HX.out.c0
              have z1 := HX.out.c1
              clear hb1
              go_wp2_with fail
              refine (HC2.out _ HX.out.item).mono ?_
              rintro e w2 ⟨rfl, hb2⟩
              have HX := Lib.hid (HX.out.next hb2)
              have HO := Lib.hid (HO.out.below hb2)
              have z0 := HX.out.c0
              have z1 := HX.out.c1
              clear hb2
              go_wp2_with fail
              refine (HC2.out _ HX.out.item).mono ?_
              rintro e w3 ⟨rfl, hb3⟩
              have HX := Lib.hid (HX.out.next hb3)
              have HO := Lib.hid (HO.out.below hb3)
              have z0 := HX.out.c0
              have z1 := HX.out.c1
              clear hb3
              go_wp2_with fail
              refine (HC3.out _ HX.out.item).mono ?_
              rintro e w4 ⟨rfl, hb4⟩
              have HX := Lib.hid (HX.out.next hb4)
              have HO := Lib.hid (HO.out.below hb4)
              have z0 := HX.out.c0
              have z1 := HX.out.c1
              clear hb4
              go_wp2_with fail
              go_roundw
              case rel => exact ⟨k + 1, f, o, ps, by omega, by omega, by omega, by first | omega | (rw [List.length_append, List.length_singleton]; omega), by first | rfl | go_num, by first | rfl | go_num, by go_num, HO.out, HPE.out, HX.out.bel⟩
              case measure => simp [intOf]; omega
    · have hke : k = l.length := by omega
      subst hke
      have hP := HP.out
      rw [List.drop_length, piecesGo] at hP
      have HP := Lib.hid hP
      clear hP hb
      go_wp2_with fail
      go_ret3
      unfold PiecesSay
      rw [← HP.out]
      exact ⟨rfl, HB.out⟩
end Go.Proofs.YtciflnnagkdjiaaDoor.Ext

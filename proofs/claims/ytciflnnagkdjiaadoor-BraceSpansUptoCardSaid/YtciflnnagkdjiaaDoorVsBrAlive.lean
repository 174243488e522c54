/- Proved: cowrielaw17.alive's call is true; words that are read. Condition: MaxLen holds a number. -/
import Derived.Test.YtciflnnagkdjiaaDoorVsBrTop2
set_option linter.unusedVariables false
set_option linter.unusedSimpArgs false
namespace Go.Proofs.YtciflnnagkdjiaaDoor.Ext
open Go.RowKit Go.Proofs.YtciflnnagkdjiaaDoorW.PrintWords
theorem mx_of {W : World} (h : W.ShapedOpen Tryd.prog) : MX W :=
  Go.Proofs.cell_of_shapedOpen_int (zero := #[.int .i64 0]) (t := 3) h (of_decide_eq_true (by kernel_rfl)) (by kernel_rfl) rfl (by kernel_rfl) (by kernel_rfl) Tryd.underlying3
/-- A word that is read. -/
theorem at_W {w : World} {A : Option Addr} {n : Nat} {L : List (List PartS)} (h : Kd.C kW w A n L) {j : Nat} {x : List PartS} (hj : L[j]? = some x) : ∃ ad A' c', A = some ad ∧ w.cell? (ad.add j) = some (.slice A' x.length c') ∧ x.length ≤ c' ∧ Kd.C kP w A' x.length x := by
  have hlt := (List.getElem?_eq_some_iff.1 hj).1
  have hn := h.1
  obtain ⟨ad, ha, hc⟩ := h.2.2 (by omega)
  obtain ⟨cs, _, ⟨A', c', rfl, hl, hC⟩, hcc⟩ := hc j x hj
  have g := hcc 0 _ rfl
  have e : ad.add (j * kW.sz + 0) = ad.add j := by
    show ad.add (j * 1 + 0) = ad.add j
    rw [Nat.mul_one, Nat.add_zero]
  rw [e] at g
  exact ⟨ad, A', c', ha, g, hl, hC⟩
theorem word_go : ∀ (l pre : List UInt8), (l.map ItemS.oct).foldl wordStep [textP ⟨pre.toArray⟩ false] = [textP ⟨(pre ++ l).toArray⟩ false]
  | [], pre => by rw [List.append_nil]; rfl
  | c :: l, pre => by
    have h := word_go l (pre ++ [c])
    rw [List.append_assoc] at h
    rw [List.map_cons, List.foldl_cons]
    have e : wordStep [textP ⟨pre.toArray⟩ false] (.oct c) = [textP ⟨(pre ++ [c]).toArray⟩ false] := by
      show [addText (textP ⟨pre.toArray⟩ false) c] = _
      have e2 : ((⟨pre.toArray⟩ : ByteArray) ++ ⟨#[c]⟩) = ⟨(pre ++ [c]).toArray⟩ := by
        apply ByteArray.ext
        simp
      unfold addText textP
      dsimp only
      rw [e2]
    rw [e]
    exact h
/-- Octets are one unquoted text. -/
theorem word_octs {l : List UInt8} (h : l ≠ []) : wordP (l.map ItemS.oct) = [textP ⟨l.toArray⟩ false] := by
  cases l with
  | nil => exact absurd rfl h
  | cons c l =>
    unfold wordP
    rw [List.map_cons, List.foldl_cons]
    have := word_go l [c]
    exact this
theorem octs_tame {l : List UInt8} (h : ∀ c ∈ l, c ≠ 123 ∧ c ≠ 125 ∧ c ≠ 44) : ∀ x ∈ l.map ItemS.oct, tame x := by
  intro x hx
  obtain ⟨c, hc, rfl⟩ := List.mem_map.1 hx
  exact oct_tame (h c hc)
theorem alive_words : expandW 2 [textP ⟨#[97, 123, 98, 44, 99, 125, 100]⟩ false] = some (some [[textP ⟨#[97, 98, 100]⟩ false], [textP ⟨#[97, 99, 100]⟩ false]]) := by
  have hi : itemsP [textP ⟨#[97, 123, 98, 44, 99, 125, 100]⟩ false] = [97, 123, 98, 44, 99, 125, 100].map ItemS.oct := items_text [97, 123, 98, 44, 99, 125, 100]
  have hl : ([97, 123, 98, 44, 99, 125, 100].map ItemS.oct : List ItemS) = [97].map ItemS.oct ++ .oct 123 :: (commas ([[98], [99]].map (List.map ItemS.oct)) ++ .oct 125 :: [100].map ItemS.oct) := rfl
  have hf := found_list spanS ([97].map ItemS.oct) ([100].map ItemS.oct) ([[98], [99]].map (List.map ItemS.oct)) (by decide) (octs_tame (by decide)) (by
    intro x hx
    obtain ⟨y, hy, rfl⟩ := List.mem_map.1 hx
    exact octs_tame (by clear hx; revert y; decide))
  have he := expand_list spanS 0 ([97].map ItemS.oct) ([100].map ItemS.oct) ([[98], [99]].map (List.map ItemS.oct)) (by decide) (by decide) (octs_tame (by decide)) (octs_tame (by decide)) (by
    intro x hx
    obtain ⟨y, hy, rfl⟩ := List.mem_map.1 hx
    exact octs_tame (by clear hx; revert y; decide))
  unfold expandW
  rw [hi, hl, hf, he]
  rfl
theorem num_calls (n : Int) (w : World) : Calls Tryd.prog 9 #[.int .i64 n] w fun e w' => e = .returned (.int .i64 n) ∧ Below w.heap.size w w' := by
  go_enter Tryd.func9, Tryd.ntmps9
  go_wp2_with fail
  go_ret
  exact ⟨rfl, Below.refl _ _⟩
set_option maxHeartbeats 4000000 in
set_option maxRecDepth 100000 in
theorem alive_calls (w : World) (hmx : MX w) : Calls Tryd.prog 12 #[] w fun e w' => e = .returned (.bool true) ∧ Below w.heap.size w w' := by
  have hb0 := (Below.refl _ w).alloc (Nat.le_refl _) (.cells (encP (textP ⟨#[97, 123, 98, 44, 99, 125, 100]⟩ false)).toArray 26)
  have HE := Lib.hid (brexpand_calls 2 (some ⟨w.heap.size, 0, none⟩) 1 [textP ⟨#[97, 123, 98, 44, 99, 125, 100]⟩ false] _ _ (hmx.below hb0) (C_lit w (textP ⟨#[97, 123, 98, 44, 99, 125, 100]⟩ false)) (Nat.le_refl _) (by decide) alive_words)
  have HB0 := Lib.hid hb0
  have HN := Lib.hid num_calls
  clear hb0 hmx
  go_enter Tryd.func12, Tryd.ntmps12
  go_wp2_with fail
  refine HE.out.mono ?_
  rintro e w1 ⟨⟨v, rfl, hR⟩, hb1⟩
  obtain ⟨A1, c1, hv, hc1, hC1⟩ := Kd.R_reads hR
  subst hv
  have HB1 := Lib.hid (below_step HB0.out hb1)
  have HC1 := Lib.hid hC1
  clear hR hC1 hb1
  go_wp2_with fail
  refine (HN.out _ _).mono ?_
  rintro e w2 ⟨rfl, hb2⟩
  have HB2 := Lib.hid (below_step HB1.out hb2)
  obtain ⟨ad, A', c', hA1, y0, hc', hCp⟩ := at_W (Kd.C_below HC1.out hb2) (j := 1) rfl
  subst hA1
  obtain ⟨ap, hAp, x0, x1, x2, x3, x4, x5, x6, x7, x8, x9⟩ := at_P hCp (k := 0) rfl
  subst hAp
  rw [show (0 : Nat) * 10 = 0 from rfl, show ap.add 0 = ap by simp [Addr.add]] at x0 x1 x2 x3 x4 x5 x6 x7 x8 x9
  rw [show ad.add 1 = ⟨ad.block, ad.off + 1, none⟩ by simp [Addr.add]] at y0
  clear hCp hb2
  go_wp2_with fail
  go_ret
  refine ⟨?_, HB2.out⟩
  first | rfl | (simp [textP]; done) | skip
end Go.Proofs.YtciflnnagkdjiaaDoor.Ext

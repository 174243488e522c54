/- Proved: cowrielaw17.BraceQuoted's call is true at any text. Condition: MaxLen holds a number. -/
import Derived.Test.YtciflnnagkdjiaaDoorVqBrSame2
set_option linter.unusedVariables false
set_option linter.unusedSimpArgs false
namespace Go.Proofs.YtciflnnagkdjiaaDoor.Ext
open Go.RowKit Go.Proofs.YtciflnnagkdjiaaDoorW.PrintWords
theorem quoted_items (s : ByteArray) : itemsP [textP s true] = [.part (textP s true)] := by
  unfold itemsP itemsOf
  rw [List.flatMap_singleton, if_neg (fun h => by cases h.2)]
theorem quoted_none (s : ByteArray) : foundF spanS (itemsP [textP s true]) = none := by
  rw [quoted_items]
  exact foundF_no _ _ (fun c hc => by rw [List.mem_singleton.1 hc]; rfl)
theorem quoted_words (s : ByteArray) : expandW 1 [textP s true] = some (some [[textP s true]]) := by
  unfold expandW
  rw [quoted_none, if_neg (by decide), quoted_items]
  rfl
theorem C_litW {w : World} {A : Option Addr} {c : Nat} {ps : List PartS} (h : Kd.C kP w A ps.length ps) (hc : ps.length ≤ c) : Kd.C kW (w.alloc (.cells #[.slice A ps.length c] 28)) (some ⟨w.heap.size, 0, none⟩) 1 [ps] := by
  refine ⟨rfl, by decide, fun _ => ⟨_, rfl, fun j q hj => ?_⟩⟩
  cases j with
  | zero =>
    have : ps = q := by simpa using hj
    subst this
    refine ⟨[.slice A ps.length c], rfl, ⟨A, c, rfl, hc, Kd.C_alloc h _⟩, fun i u hu => ?_⟩
    have h := blk_cell (heap_alloc_new w (.cells #[.slice A ps.length c] 28)) i
    rw [← List.getElem?_toArray] at hu
    have e : (⟨w.heap.size, 0, none⟩ : Addr).add (0 * kW.sz + i) = ⟨w.heap.size, i, none⟩ := by
      rw [Nat.zero_mul, Nat.zero_add, add_plain]
    rw [e, h]
    exact hu
  | succ j => simp at hj
def cowrielaw17_BraceQuoted.f (a0 : ByteArray) : Option Bool := some true
set_option maxHeartbeats 8000000 in
set_option maxRecDepth 100000 in
theorem cowrielaw17_BraceQuoted.calls (a0 : ByteArray) (r : Bool) (w : World) (hT : MX w) (h : cowrielaw17_BraceQuoted.f a0 = some r) :
    Calls Tryd.prog 3 #[.string a0] w fun e w' => e = .returned (.bool r) ∧ Below w.heap.size w w' := by
  obtain rfl := Option.some.inj h
  clear h
  have hb0 := (Below.refl _ w).alloc (Nat.le_refl _) (.cells (encP (textP a0 true)).toArray 26)
  have hcl := C_lit w (textP a0 true)
  have hb1 := (Below.refl _ (w.alloc (.cells (encP (textP a0 true)).toArray 26))).alloc (Nat.le_refl _) (.cells #[.slice (some ⟨w.heap.size, 0, none⟩) 1 1] 28)
  have h1 := heap_alloc_new (w.alloc (.cells (encP (textP a0 true)).toArray 26)) (.cells #[.slice (some ⟨w.heap.size, 0, none⟩) 1 1] 28)
  rw [alloc_size] at h1
  have hcl2 := Kd.C_below hcl hb1
  have hl : (itemsP [textP a0 true]).length ≤ 1000000000 := by rw [quoted_items, List.length_singleton]; omega
  have HE := Lib.hid (fun W hm hc => brexpand_calls 1 (some ⟨w.heap.size, 0, none⟩) 1 [textP a0 true] _ W hm hc (Nat.le_refl _) hl (quoted_words a0))
  have hh := fun W hm hc => has_calls (some ⟨w.heap.size, 0, none⟩) 1 [textP a0 true] W hm hc (Nat.le_refl _) hl
  rw [quoted_none] at hh
  have HH := Lib.hid hh
  have HS := Lib.hid words_one
  have HN := Lib.hid num_calls
  have HAL := Lib.hid alive_calls
  have HMX := Lib.hid hT
  have HB := Lib.hid (below_step hb0 hb1)
  have HK := Lib.hid h1
  have HC := Lib.hid hcl2
  clear hb0 hb1 hcl hcl2 h1 hh hl hT
  go_enter Tryd.func3, Tryd.ntmps3
  go_wp2_with fail
  refine (HE.out _ (HMX.out.below HB.out) HC.out).mono ?_
  rintro e w1 ⟨⟨v, rfl, hR⟩, hb1⟩
  obtain ⟨A1, c1, hv, hc1, hC1⟩ := Kd.R_reads hR
  subst hv
  have HB1 := Lib.hid (below_step HB.out hb1)
  have HK1 := Lib.hid ((hb1.block _ (blk_lt HK.out)).trans HK.out)
  have HC1 := Lib.hid (Kd.C_below HC.out hb1)
  have HL1 := Lib.hid hC1
  clear hR hC1 hb1
  go_wp2_with fail
  refine (HN.out _ _).mono ?_
  rintro e w2 ⟨rfl, hb2⟩
  have HB2 := Lib.hid (below_step HB1.out hb2)
  have HK2 := Lib.hid ((hb2.block _ (blk_lt HK1.out)).trans HK1.out)
  have HC2 := Lib.hid (Kd.C_below HC1.out hb2)
  have HL2 := Lib.hid (Kd.C_below HL1.out hb2)
  have k2 := blk_cell HK2.out 0
  clear hb2
  go_wp2_with fail
  refine (HH.out _ (HMX.out.below HB2.out) HC2.out).mono ?_
  rintro e w3 ⟨rfl, hb3⟩
  have HB3 := Lib.hid (below_step HB2.out hb3)
  have HK3 := Lib.hid ((hb3.block _ (blk_lt HK2.out)).trans HK2.out)
  have HC3 := Lib.hid (Kd.C_below HC2.out hb3)
  have HL3 := Lib.hid (Kd.C_below HL2.out hb3)
  clear hb3 k2
  have k3 := blk_cell HK3.out 0
  have hb4 := (Below.refl _ w3).alloc (Nat.le_refl _) (.cells #[.slice (some ⟨w.heap.size, 0, none⟩) 1 1] 28)
  have HL4 := Lib.hid (Kd.C_below HL3.out hb4)
  have hlw := C_litW (c := 1) HC3.out (Nat.le_refl _)
  have HW4 := Lib.hid hlw
  have HB4 := Lib.hid (below_step HB3.out hb4)
  clear hb4 hlw
  go_wp2_with fail
  refine (HS.out _ _ _ _ _ _ _ HL4.out HW4.out).mono ?_
  rintro e w5 ⟨rfl, hb5⟩
  have HB5 := Lib.hid (below_step HB4.out hb5)
  clear hb5
  go_wp2_with fail
  refine (HAL.out _ (HMX.out.below HB5.out)).mono ?_
  rintro e w6 ⟨rfl, hb6⟩
  have HB6 := Lib.hid (below_step HB5.out hb6)
  clear hb6
  go_wp2_with fail
  go_ret
  exact ⟨rfl, HB6.out⟩
end Go.Proofs.YtciflnnagkdjiaaDoor.Ext
namespace Go.Proofs.YtciflnnagkdjiaaDoor.P
end Go.Proofs.YtciflnnagkdjiaaDoor.P

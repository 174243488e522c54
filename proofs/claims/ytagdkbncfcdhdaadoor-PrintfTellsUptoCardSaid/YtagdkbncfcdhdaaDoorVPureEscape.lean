/- Proved: the document's Escape tells what printf.Escape tells. Plain Lean: no program's step. -/
import Derived.Test.YtagdkbncfcdhdaaDoorVR1
import Derived.Test.YtagdkbncfcdhdaaDoorVPureEsc
set_option linter.unusedVariables false
namespace Go.Proofs.YtagdkbncfcdhdaaDoor.PureT
open Go.RowKit Go.Proofs.YtagdkbncfcdhdaaDoor.Ext Go.Proofs.YtagdkbncfcdhdaaDoorW.PrintWords
theorem ba_ext' {a b : ByteArray} (h : a.data.toList = b.data.toList) : a = b := by
  apply ByteArray.ext
  exact Array.toList_inj.1 h
theorem ext_list (x : ByteArray) (i : Nat) : (x.extract i x.size).data.toList = x.data.toList.drop i := by
  simp [ByteArray.data_extract]
  rw [List.take_of_length_le (by simp)]
theorem ext_size (x : ByteArray) (i : Nat) : (x.extract i x.size).size = x.size - i := by
  rw [PurePf.ba_size, ext_list, List.length_drop, ← PurePf.ba_size]
theorem ext_ext (x : ByteArray) (i m : Nat) : (x.extract i x.size).extract m (x.extract i x.size).size = x.extract (i + m) x.size := by
  apply ba_ext'
  rw [ext_list, ext_list, ext_list, List.drop_drop]
theorem ext_cons (x : ByteArray) (i : Nat) (h : i < x.data.toList.length) : (x.extract i x.size).data.toList = x.data.toList[i] :: x.data.toList.drop (i + 1) := by
  rw [ext_list, List.drop_eq_getElem_cons h]
theorem ext_one (x : ByteArray) (i : Nat) (h : i < x.data.toList.length) : x.extract i (i + 1) = ⟨#[x.data.toList[i]]⟩ := by
  apply ba_ext'
  have : (x.extract i (i + 1)).data.toList = (x.data.toList.drop i).take 1 := by
    simp [ByteArray.data_extract, List.take_drop]
  rw [this, List.drop_eq_getElem_cons h]
  rfl
theorem bt_list (x : ByteArray) (i : Nat) (h : i < x.data.toList.length) : bt x ((i : Nat) : Int) = ((x.data.toList[i].toNat : Nat) : Int) := by
  have h2 : i < x.size := by rw [PurePf.ba_size]; exact h
  rw [← bt_at x i (by rw [Int.toNat_natCast]; exact h2)]
  simp
  rfl
theorem bt_is (x : ByteArray) (i : Nat) (h : i < x.data.toList.length) (c : UInt8) : bt x ((i : Nat) : Int) = (c.toNat : Int) ↔ x.data.toList[i] = c := by
  rw [bt_list x i h]
  constructor
  · intro e
    exact UInt8.toNat_inj.1 (by omega)
  · rintro rfl
    rfl
theorem wr (i : Nat) (h : i ≤ 1000000000000) : wrap64 (((i : Nat) : Int) + 1) = ((i + 1 : Nat) : Int) := by unfold wrap64; omega
theorem escape_loop (x : ByteArray) (hs : x.size ≤ 100000000) : ∀ (N d i : Nat) (out : ByteArray), d ≤ N → d + i = x.size → out.size + d ≤ 1000000000 →
    ∃ t : List UInt8, t.length ≤ d ∧ (∀ n, d + 1 ≤ n → escL n (x.extract i x.size) = some t) ∧ (∀ k, d + 50 ≤ k → R.cowrieref09_Escape.l0 k x out i = some (out ++ ⟨t.toArray⟩)) := by
  intro N
  have hxl := PurePf.ba_size x
  induction N with
  | zero =>
    intro d i out hd hi ho
    obtain rfl : d = 0 := by omega
    refine ⟨[], Nat.le_refl _, fun n hn => ?_, fun k hk => ?_⟩
    · obtain ⟨n, rfl⟩ : ∃ m, n = m + 1 := ⟨n - 1, by omega⟩
      rw [escL, if_pos (by rw [ext_size]; omega)]
    · obtain ⟨k, rfl⟩ : ∃ m, k = m + 1 := ⟨k - 1, by omega⟩
      rw [R.cowrieref09_Escape.l0, if_neg (by omega)]
      congr 1
      apply ba_ext'
      simp
  | succ N ih =>
    intro d i out hd hi ho
    by_cases hd0 : d = 0
    · exact ih d i out (by omega) hi ho
    have hix : i < x.size := by omega
    have hil : i < x.data.toList.length := by omega
    have hcons := ext_cons x i hil
    have hes := ext_size x i
    have i0 : (0 : Int) ≤ ((i : Nat) : Int) := Int.natCast_nonneg _
    have ilt : ((i : Nat) : Int) < (x.size : Int) := Int.ofNat_lt.2 hix
    have ile : ((i : Nat) : Int) ≤ (x.size : Int) := Int.le_of_lt ilt
    have hw := wr i (by omega)
    -- AN OCTET THAT STANDS FOR ITSELF
    obtain ⟨t0, ht0, he0, hr0⟩ := ih (d - 1) (i + 1) (out ++ ⟨#[x.data.toList[i]]⟩) (by omega) (by omega) (by rw [ByteArray.size_append]; show out.size + 1 + _ ≤ _; omega)
    have hone : (x.extract i ((wrap64 ((i : Int) + 1)).toNat)) = ⟨#[x.data.toList[i]]⟩ := by
      rw [hw, Int.toNat_natCast]
      exact ext_one x i hil
    have l1 : ((i : Nat) : Int) ≤ wrap64 (((i : Nat) : Int) + 1) := by rw [hw]; omega
    have l2 : wrap64 (((i : Nat) : Int) + 1) ≤ (x.size : Int) := by rw [hw]; omega
    have l3 : out.size + (⟨#[x.data.toList[i]]⟩ : ByteArray).size ≤ 9223372036854775807 := by show out.size + 1 ≤ _; omega
    have happ : (out ++ (⟨#[x.data.toList[i]]⟩ : ByteArray)) ++ ⟨t0.toArray⟩ = out ++ ⟨(x.data.toList[i] :: t0).toArray⟩ := by
      apply ba_ext'
      simp
    have hhead : ((x.extract i x.size).extract 0 1).data.toList = [x.data.toList[i]] := PurePf.head_list _ _ _ hcons
    have htail : (x.extract i x.size).extract 1 (x.extract i x.size).size = x.extract (i + 1) x.size := ext_ext x i 1
    by_cases hc : x.data.toList[i] = 92
    · rw [hc] at hcons
      obtain ⟨⟨t1, n1⟩, hg, hq, hr⟩ := one_escape _ _ hcons
      obtain ⟨g0, g1, g2⟩ := hg
      dsimp only at g0 g1 g2
      rw [hes] at g1
      have hb92 : bt x ((i : Nat) : Int) = 92 := (bt_is x i hil 92).2 hc
      by_cases hn0 : n1 = 0
      · subst hn0
        refine ⟨x.data.toList[i] :: t0, by rw [List.length_cons]; omega, fun n hn => ?_, fun k hk => ?_⟩
        · obtain ⟨n, rfl⟩ : ∃ m, n = m + 1 := ⟨n - 1, by omega⟩
          rw [escL, if_neg (by rw [hes]; omega), hq, Option.bind_some, if_pos rfl, htail, he0 n (by omega), hhead]
          rfl
        · obtain ⟨k, rfl⟩ : ∃ m, k = m + 1 := ⟨k - 1, by omega⟩
          rw [R.cowrieref09_Escape.l0, if_pos ilt, if_pos i0, if_pos hb92, if_pos ile, Int.toNat_natCast, hr k (by omega), Option.bind_some, if_neg (show ¬ ((0 : Int) > 0) by decide)]
          rw [if_pos l1, if_pos l2, hone, if_pos l3, hw, hr0 k (by omega), happ]
      · obtain ⟨m, rfl⟩ := Int.eq_ofNat_of_zero_le g0
        obtain ⟨t2, ht2, he2, hr2⟩ := ih (d - m) (i + m) (out ++ t1) (by omega) (by omega) (by rw [ByteArray.size_append]; omega)
        refine ⟨t1.data.toList ++ t2, ?_, fun n hn => ?_, fun k hk => ?_⟩
        · rw [List.length_append, ← PurePf.ba_size]
          omega
        · obtain ⟨n, rfl⟩ : ∃ m, n = m + 1 := ⟨n - 1, by omega⟩
          rw [escL, if_neg (by rw [hes]; omega), hq, Option.bind_some, if_neg hn0, if_pos ⟨g0, by show (m : Int) ≤ _; rw [hes]; omega, g2⟩]
          show Option.map _ (escL n ((x.extract i x.size).extract (((m : Nat) : Int)).toNat (x.extract i x.size).size)) = _
          rw [Int.toNat_natCast, ext_ext, he2 n (by omega)]
          rfl
        · obtain ⟨k, rfl⟩ : ∃ m, k = m + 1 := ⟨k - 1, by omega⟩
          rw [R.cowrieref09_Escape.l0, if_pos ilt, if_pos i0, if_pos hb92, if_pos ile, Int.toNat_natCast, hr k (by omega), Option.bind_some]
          have e1 : ((m : Nat) : Int) > 0 := by omega
          have e2 : out.size + t1.size ≤ 9223372036854775807 := by omega
          have e3 : wrap64 (((i : Nat) : Int) + ((m : Nat) : Int)) = ((i + m : Nat) : Int) := by unfold wrap64; omega
          have e4 : (out ++ t1) ++ (⟨t2.toArray⟩ : ByteArray) = out ++ ⟨(t1.data.toList ++ t2).toArray⟩ := by
            apply ba_ext'
            simp
          dsimp only
          rw [if_pos e1, if_pos e2, e3, hr2 k (by omega), e4]
    · have hb92 : ¬ bt x ((i : Nat) : Int) = 92 := fun e => hc ((bt_is x i hil 92).1 e)
      have hq := PurePf.esc_plain _ _ _ hcons hc
      refine ⟨x.data.toList[i] :: t0, by rw [List.length_cons]; omega, fun n hn => ?_, fun k hk => ?_⟩
      · obtain ⟨n, rfl⟩ : ∃ m, n = m + 1 := ⟨n - 1, by omega⟩
        rw [escL, if_neg (by rw [hes]; omega), hq, Option.bind_some, if_pos rfl, htail, he0 n (by omega), hhead]
        rfl
      · obtain ⟨k, rfl⟩ : ∃ m, k = m + 1 := ⟨k - 1, by omega⟩
        rw [R.cowrieref09_Escape.l0, if_pos ilt, if_pos i0, if_neg hb92, if_pos l1, if_pos l2, Int.toNat_natCast, hone, if_pos l3, hw, hr0 k (by omega), happ]
theorem escape_ref (x : ByteArray) (hs : x.size ≤ 100000000) : ∃ r, printf_Escape.f x = some r ∧ r.size ≤ x.size ∧ ∀ k, x.size + 50 ≤ k → R.cowrieref09_Escape.f k x = some r := by
  obtain ⟨t, ht, he, hr⟩ := escape_loop x hs x.size x.size 0 ⟨#[]⟩ (Nat.le_refl _) (by omega) (by show 0 + x.size ≤ _; omega)
  have hx0 : x.extract 0 x.size = x := by
    apply ba_ext'
    rw [ext_list, List.drop_zero]
  rw [hx0] at he
  refine ⟨⟨t.toArray⟩, ?_, ?_, fun k hk => ?_⟩
  · unfold printf_Escape.f
    rw [if_pos (by omega), he (x.size + 1) (Nat.le_refl _)]
    rfl
  · show t.toArray.size ≤ _
    rw [List.size_toArray]
    exact ht
  · unfold R.cowrieref09_Escape.f
    have := hr k hk
    rw [show (⟨#[]⟩ : ByteArray) ++ ⟨t.toArray⟩ = ⟨t.toArray⟩ from by apply ba_ext'; simp] at this
    exact this
end Go.Proofs.YtagdkbncfcdhdaaDoor.PureT

/- Proved: the law NumberBases over numbers alone: hexadecimal and octal digits of a number, behind 0x0 and 00, are read as it; for every int. -/
import Derived.Test.YtkbeapfcihgjfaaP9
import Derived.Laws.Bits64
import Derived.OpenShut
namespace Go.Proofs.Ytkbeapfcihgjfaa.PureB
open Go.RowKit Go.Proofs.Ytkbeapfcihgjfaa.Ext Go.Proofs.Ytkbeapfcihgjfaa.P Go.Proofs.YtkbeapfcihgjfaaW.PrintWords Go.Proofs.YtkbeapfcihgjfaaW.PrintLast

theorem alive_ok : cowrielaw04_alive.f = some true := by
  have h1 : number_Literal.f ⟨#[48, 120, 49, 102]⟩ = some (31, 0) := by decide +kernel
  have h2 : number_Literal.f ⟨#[48, 49, 48]⟩ = some (8, 0) := by decide +kernel
  have h3 : number_Print.f (-5) = some ⟨#[45, 53]⟩ := by
    unfold number_Print.f decsInt
    rw [decs]
    rfl
  unfold cowrielaw04_alive.f
  rw [h1, h2, h3]
  decide +kernel

/-- The text's digits, read on from m, are N. -/
def Is (base : Int) (x : ByteArray) (m N : Nat) : Prop := digitsGo base x.data.toList m = some (N : Int)

def D16 : ByteArray := ⟨#[48, 49, 50, 51, 52, 53, 54, 55, 56, 57, 97, 66, 99, 68, 101, 70]⟩
theorem dig16 : ∀ r : Fin 16, digitOf 16 ((D16.data.toList.getD r.val 0).toNat : Int) = (r.val : Int) := by decide +kernel
theorem dig8 : ∀ r : Fin 8, digitOf 8 (((UInt8.ofNat (48 + r.val)).toNat : Int)) = (r.val : Int) := by decide +kernel

theorem cut_one (r : Nat) (h : r < 16) : (D16.extract r (r + 1)).data.toList = [D16.data.toList.getD r 0] := by
  have : ∀ r : Fin 16, (D16.extract r.val (r.val + 1)).data.toList = [D16.data.toList.getD r.val 0] := by decide +kernel
  exact this ⟨r, h⟩

theorem is_step {base : Int} {x y : ByteArray} {m N b r : Nat} {c : UInt8} (hb : base = b) (hy : y.data.toList = c :: x.data.toList) (hc : digitOf base (c.toNat : Int) = (r : Int)) (hr : m % b = r) (hm : m < 18446744073709551616)
    (h : Is base x m N) : Is base y (m / b) N := by
  unfold Is at h ⊢
  subst hb
  rw [hy, digitsGo, hc, if_neg (by omega), ← h]
  congr 1
  rw [IntKind.wrap_u64, IntKind.wrap_u64]
  have e : m / b * b + m % b = m := Nat.div_add_mod' m b
  have e1 : ((m / b : Nat) : Int) * (b : Int) = ((m / b * b : Nat) : Int) := by simp
  rw [e1, ← hr]
  omega

theorem read_lit {N : Nat} {x : ByteArray} {b : Int} (hs : x.size ≤ 2000) (hb : 0 ≤ b ∧ b ≤ 16) (h : Is b x 0 N) (hb8 : digitOf b 48 = 0) :
    ∀ y : ByteArray, y.data.toList = 48 :: x.data.toList → number_digits.f y b = some ((N : Int), true) := by
  intro y hy
  have hy1 : y.size = x.size + 1 := by
    have := congrArg List.length hy
    simpa using this
  unfold number_digits.f
  rw [if_pos ⟨hb.1, hb.2, by omega⟩, hy, digitsGo, if_neg (by rw [show ((48 : UInt8).toNat : Int) = 48 from rfl, hb8]; omega)]
  rw [show ((48 : UInt8).toNat : Int) = 48 from rfl, hb8, show IntKind.u64.wrap (IntKind.u64.wrap (0 * b) + 0) = ((0 : Nat) : Int) by rw [Int.zero_mul]; rfl]
  unfold Is at h
  rw [h]
  have : y.toList.isEmpty = false := by
    rw [Lib.toList_data, hy]
    rfl
  simp [this]

theorem fin_l1 (k : Nat) (a0 : Int) (x3 x4 : ByteArray) {N : Nat} (hN : wrap64 (N : Int) = a0) (h3 : x3.size ≤ 2000) (h4 : x4.size ≤ 2000) (i3 : Is 16 x3 0 N) (i4 : Is 8 x4 0 N) :
    cowrielaw04_NumberBases.l1 (k + 1) a0 x3 x4 0 = some true := by
  have r3 : number_Literal.f ((⟨#[48, 120, 48]⟩ : ByteArray) ++ x3) = some (a0, 0) := by
    have hs : ((⟨#[48, 120, 48]⟩ : ByteArray) ++ x3).size = 3 + x3.size := by rw [ByteArray.size_append]; rfl
    have b0 : bt ((⟨#[48, 120, 48]⟩ : ByteArray) ++ x3) 0 = 48 := by
      unfold bt
      rw [dif_pos (by rw [hs]; show 0 < _; omega)]
      rw [ByteArray.getElem_append_left (by decide)]
      rfl
    have b1 : bt ((⟨#[48, 120, 48]⟩ : ByteArray) ++ x3) 1 = 120 := by
      unfold bt
      rw [dif_pos (by rw [hs]; show 1 < _; omega)]
      rw [ByteArray.getElem_append_left (by decide)]
      rfl
    unfold number_Literal.f
    rw [if_pos (by omega), if_pos ⟨by omega, b0⟩, if_pos (.inl b1), read_lit h3 (by omega) i3 (by decide +kernel) _ (by
      simp [ByteArray.data_extract, hs]
      rw [List.take_of_length_le (by simp only [List.length_cons, List.length_nil]; omega), List.take_of_length_le (by simp)]
      rfl)]
    simp [litTell, hN]
  have r4 : number_Literal.f ((⟨#[48, 48]⟩ : ByteArray) ++ x4) = some (a0, 0) := by
    have hs : ((⟨#[48, 48]⟩ : ByteArray) ++ x4).size = 2 + x4.size := by rw [ByteArray.size_append]; rfl
    have b0 : bt ((⟨#[48, 48]⟩ : ByteArray) ++ x4) 0 = 48 := by
      unfold bt
      rw [dif_pos (by rw [hs]; show 0 < _; omega)]
      rw [ByteArray.getElem_append_left (by decide)]
      rfl
    have b1 : bt ((⟨#[48, 48]⟩ : ByteArray) ++ x4) 1 = 48 := by
      unfold bt
      rw [dif_pos (by rw [hs]; show 1 < _; omega)]
      rw [ByteArray.getElem_append_left (by decide)]
      rfl
    unfold number_Literal.f
    rw [if_pos (by omega), if_pos ⟨by omega, b0⟩, if_neg (by omega), read_lit h4 (by omega) i4 (by decide +kernel) _ (by
      simp [ByteArray.data_extract, hs]
      rw [List.take_of_length_le (by simp only [List.length_cons, List.length_nil]; omega), List.take_of_length_le (by simp)]
      rfl)]
    simp [litTell, hN]
  simp only [cowrielaw04_NumberBases.l1]
  rw [if_neg (by omega), if_pos (by omega), r3]
  simp only [Option.bind_some]
  rw [if_pos (by omega), r4]
  simp only [Option.bind_some, cowrielaw04_num.f]
  rw [if_pos (by decide +kernel)]
  simp

theorem run_l1 (a0 : Int) (x3 : ByteArray) {N : Nat} (hN : wrap64 (N : Int) = a0) (h3 : x3.size ≤ 2000) (i3 : Is 16 x3 0 N) :
    ∀ (j m : Nat) (x4 : ByteArray), m < 2 ^ j → m < 18446744073709551616 → x4.size + j ≤ 1000 → Is 8 x4 m N → cowrielaw04_NumberBases.l1 (j + 1) a0 x3 x4 (m : Int) = some true
  | 0, m, x4, hm, _, hs, i4 => by
    have : m = 0 := by simpa using hm
    subst this
    exact fin_l1 0 a0 x3 x4 hN h3 (by omega) i3 i4
  | j + 1, m, x4, hm, hM, hs, i4 => by
    by_cases h0 : m = 0
    · subst h0
      exact fin_l1 (j + 1) a0 x3 x4 hN h3 (by omega) i3 i4
    · have e : (IntKind.u64.wrap (48 + (Int.tmod (m : Int) 8))) % 256 = ((48 + m % 8 : Nat) : Int) := by
        rw [Int.tmod_eq_emod_of_nonneg (by omega), IntKind.wrap_u64]
        omega
      have e2 : IntKind.u64.wrap (Int.tdiv (m : Int) 8) = ((m / 8 : Nat) : Int) := by
        rw [Int.tdiv_eq_ediv_of_nonneg (by omega), IntKind.wrap_u64]
        omega
      have hl : (strOfNums [((48 + m % 8 : Nat) : Int)]).size = 1 := rfl
      rw [cowrielaw04_NumberBases.l1]
      rw [if_pos (by omega), e, e2]
      simp only [Option.bind_some]
      rw [if_pos (by rw [hl]; omega)]
      refine run_l1 a0 x3 hN h3 i3 j (m / 8) _ (by rw [Nat.pow_succ] at hm; omega) (by omega) (by rw [ByteArray.size_append, hl]; omega) ?_
      have hd := dig8 ⟨m % 8, by omega⟩
      exact is_step (b := 8) (r := m % 8) rfl (c := UInt8.ofNat (48 + m % 8)) (by rw [ByteArray.data_append, Array.toList_append]; rfl) hd rfl hM i4

theorem run_l0 (a0 : Int) {N : Nat} (hN : wrap64 (N : Int) = a0) (hW : IntKind.u64.wrap a0 = (N : Int)) (hM0 : N < 18446744073709551616) :
    ∀ (j m : Nat) (x3 : ByteArray), m < 2 ^ j → m < 18446744073709551616 → x3.size + j ≤ 900 → Is 16 x3 m N → cowrielaw04_NumberBases.l0 (71 + j) a0 x3 ⟨#[]⟩ (m : Int) = some true := by
  have fin : ∀ (j : Nat) (x3 : ByteArray), j ≤ 900 → x3.size ≤ 900 → Is 16 x3 0 N → cowrielaw04_NumberBases.l0 (71 + j) a0 x3 ⟨#[]⟩ 0 = some true := by
    intro j x3 hj hs i3
    rw [show 71 + j = (70 + j) + 1 by omega, cowrielaw04_NumberBases.l0, if_neg (by omega), hW]
    rw [show 70 + j = (69 + j) + 1 by omega]
    refine run_l1 a0 x3 hN (by omega) i3 (69 + j) N ⟨#[]⟩ ?_ hM0 (by show 0 + _ ≤ _; omega) rfl
    have : 2 ^ 64 ≤ 2 ^ (69 + j) := Nat.pow_le_pow_right (by omega) (by omega)
    omega
  intro j
  induction j with
  | zero =>
    intro m x3 hm _ hs i3
    have : m = 0 := by simpa using hm
    subst this
    exact fin 0 x3 (by omega) (by omega) i3
  | succ j ih =>
    intro m x3 hm hM hs i3
    by_cases h0 : m = 0
    · subst h0
      exact fin (j + 1) x3 (by omega) (by omega) i3
    · have e : Int.tmod (m : Int) 16 = ((m % 16 : Nat) : Int) := by
        rw [Int.tmod_eq_emod_of_nonneg (by omega)]
        omega
      have e1 : IntKind.u64.wrap (((m % 16 : Nat) : Int) + 1) = ((m % 16 + 1 : Nat) : Int) := by
        rw [IntKind.wrap_u64]
        omega
      have e2 : IntKind.u64.wrap (Int.tdiv (m : Int) 16) = ((m / 16 : Nat) : Int) := by
        rw [Int.tdiv_eq_ediv_of_nonneg (by omega), IntKind.wrap_u64]
        omega
      have hc := cut_one (m % 16) (by omega)
      have hl : (D16.extract (m % 16) (m % 16 + 1)).size = 1 := by
        show (D16.extract (m % 16) (m % 16 + 1)).data.size = 1
        rw [← Array.length_toList, hc]
        rfl
      rw [show 71 + (j + 1) = (71 + j) + 1 by omega, cowrielaw04_NumberBases.l0]
      rw [if_pos (by omega), e, e1, e2, if_pos (by omega), if_pos (by omega), if_pos (by omega)]
      simp only [Int.toNat_natCast]
      rw [if_pos (by show (D16.extract _ _).size + _ ≤ _; rw [hl]; omega)]
      refine ih (m / 16) _ (by rw [Nat.pow_succ] at hm; omega) (by omega) (by rw [ByteArray.size_append]; show (D16.extract _ _).size + _ + _ ≤ _; rw [hl]; omega) ?_
      have hd := dig16 ⟨m % 16, by omega⟩
      refine is_step (b := 16) (r := m % 16) rfl (c := D16.data.toList.getD (m % 16) 0) ?_ hd rfl hM i3
      show ((D16.extract _ _) ++ x3).data.toList = _
      rw [ByteArray.data_append, Array.toList_append, hc]
      rfl

theorem NumberBases : cowrielaw04_NumberBases.Pure := by
  intro a0 hwf
  have hb : -9223372036854775808 ≤ a0 ∧ a0 ≤ 9223372036854775807 := bounds_i64 hwf
  obtain ⟨N, hN⟩ : ∃ N : Nat, (N : Int) = IntKind.u64.wrap a0 := by
    rw [IntKind.wrap_u64]
    exact ⟨(a0 % 18446744073709551616).toNat, by omega⟩
  have hM : N < 18446744073709551616 := by
    rw [IntKind.wrap_u64] at hN
    omega
  have hw : wrap64 (N : Int) = a0 := by
    rw [hN, IntKind.wrap_u64]
    unfold wrap64
    omega
  refine ⟨71 + 64, ?_⟩
  unfold cowrielaw04_NumberBases.f
  rw [alive_ok]
  simp only [Option.bind_some, if_true]
  rw [← hN]
  exact run_l0 a0 hw hN.symm hM 64 N ⟨#[]⟩ (by omega) hM (by decide) rfl

end Go.Proofs.Ytkbeapfcihgjfaa.PureB
namespace Go.Proofs.Ytkbeapfcihgjfaa.Pure
theorem NumberBases : P.cowrielaw04_NumberBases.Pure := PureB.NumberBases
end Go.Proofs.Ytkbeapfcihgjfaa.Pure

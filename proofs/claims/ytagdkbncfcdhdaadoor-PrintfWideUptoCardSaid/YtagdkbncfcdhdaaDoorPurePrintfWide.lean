/- Proved: PrintfWide's law (as told) answers true for every text of at most 1048576 octets and every number. Plain Lean: no program's step. -/
import Derived.Test.YtagdkbncfcdhdaaDoorP57
import Derived.Test.YtagdkbncfcdhdaaDoorPurePrintf
set_option linter.unusedVariables false
namespace Go.Proofs.YtagdkbncfcdhdaaDoor.PurePf
open Go.RowKit Go.Proofs.YtagdkbncfcdhdaaDoor.P Go.Proofs.YtagdkbncfcdhdaaDoor.Ext Go.Proofs.YtagdkbncfcdhdaaDoorW.PrintWords

/-- So many blanks. -/
def blanks (n : Nat) : ByteArray := ⟨(Lib.repeatL [32] n).toArray⟩
theorem blanks_size (n : Nat) : (blanks n).size = n := by
  show (Lib.repeatL [32] n).toArray.size = n
  rw [List.size_toArray, Lib.repeatL_length]
  simp
theorem rep_blank (n : Nat) (h : n ≤ 1000) : strings_Repeat.f (⟨#[32]⟩ : ByteArray) n = some (blanks n) := by
  unfold strings_Repeat.f
  rw [if_pos ⟨by omega, by omega, by show 1 * (n : Int).toNat ≤ _; omega⟩]
  rfl
theorem mx_w (m a : Nat) (hm : m ≤ 1000) (ha : a ≤ 100000000) : mx (wrap64 ((m : Int) - (a : Int))) 0 = ((m - a : Nat) : Int) := by
  have : wrap64 ((m : Int) - a) = (m : Int) - a := by unfold wrap64; omega
  rw [this]
  unfold mx
  split <;> omega
theorem told_w (a : ByteArray) (m : Nat) (hm : m ≤ 1000) (ha : a.size ≤ 100000000) : T.printf_spec_told.f 200 115 0 m a = some (blanks (m - a.size) ++ a, true) := by
  unfold T.printf_spec_told.f
  rw [if_neg (by decide), if_neg (by decide), if_neg (by decide), if_neg (by decide)]
  rw [show (200 : Nat) = 199 + 1 from rfl, T.printf_spec_told.j0]
  rw [show ((115 : Int) == 111) = false from rfl, if_neg (by simp)]
  rw [mx_w m a.size hm ha, rep_blank _ (by omega), Option.bind_some, if_neg (by decide), if_pos (by rw [blanks_size]; omega)]
theorem told_l (a : ByteArray) (m : Nat) (hm : m ≤ 1000) (ha : a.size ≤ 100000000) : T.printf_spec_told.f 200 115 45 m a = some (a ++ blanks (m - a.size), true) := by
  unfold T.printf_spec_told.f
  rw [if_neg (by decide), if_neg (by decide), if_neg (by decide), if_neg (by decide)]
  rw [show (200 : Nat) = 199 + 1 from rfl, T.printf_spec_told.j0]
  rw [show ((115 : Int) == 111) = false from rfl, if_neg (by simp)]
  rw [mx_w m a.size hm ha, rep_blank _ (by omega), Option.bind_some, if_pos (by decide), if_pos (by rw [blanks_size]; omega)]

/-- A format that is one conversion makes of one word what the conversion tells of it. -/
theorem format_one (F a t : ByteArray) (x0 x1 x2 n : Int) (ok : Bool) (hF : F.size ≤ 1000) (he : Q.printf_escape.f 8 F = some (⟨#[]⟩, 0)) (h37 : F.data.toList.headD 0 = 37) (hc : Q.printf_conversion.f 20 (F.extract 1 F.size) = some (x0, x1, x2, n, true)) (hn : 1 + n = F.size) (hx : x0 ≠ 37) (h1 : T.printf_spec_told.f 200 x0 x1 x2 a = some (t, ok)) (ht : t.size ≤ 1000000000) (h0 : F.size ≠ 0) (hpos : 0 ≤ n) :
    printf_Format.f F [a] = some (t, if ok = true then 0 else 1) := by
  unfold printf_Format.f
  have hex : F.extract ((1 + n).toNat) F.size = ⟨#[]⟩ := by
    apply ByteArray.ext
    rw [ByteArray.data_extract]
    apply Array.toList_inj.1
    rw [hn, Int.toNat_natCast]
    simp
  have ho : oneF 200 x0 x1 x2 ⟨[], [a], 0, 0⟩ = some ⟨t.data.toList, [], if ok = true then 0 else 1, 1⟩ := by
    unfold oneF
    rw [if_neg hx, show (List.headD [a] (⟨#[]⟩ : ByteArray)) = a from rfl, h1, Option.bind_some, if_pos (by show 0 + t.size ≤ _; omega)]
    dsimp only [List.nil_append, List.tail_cons]
    rw [show wrap64 ((0 : Int) + 1) = 1 from by unfold wrap64; omega]
  have hon : onceF 200 (F.size + 1) F ⟨[], [a], 0, 0⟩ = some (⟨t.data.toList, [], if ok = true then 0 else 1, 1⟩, true) := by
    obtain ⟨k, hk⟩ : ∃ k, F.size = k + 1 := ⟨F.size - 1, by omega⟩
    rw [onceF, if_neg h0, he, Option.bind_some, if_neg (by decide), if_neg (by rw [h37]; decide), hc, Option.bind_some, if_pos rfl, ho, Option.bind_some, if_pos ⟨hpos, by show 1 + n ≤ (F.size : Int); omega⟩, hex, hk, onceF, if_pos (by decide)]
  rw [if_pos (by omega), show ([a] : List ByteArray).length + 2 = 2 + 1 from rfl, formatF, hon, Option.bind_some, if_pos rfl, if_pos (by rfl)]
  rfl

/-- Two digits. -/
def dd (m : Nat) : ByteArray := ⟨#[UInt8.ofNat (48 + (m + 10) / 10), UInt8.ofNat (48 + (m + 10) % 10)]⟩
theorem digs : ∀ m : Fin 90, strOfNums [(wrap64 (48 + (wrap64 (Int.tdiv ((m : Nat) + 10 : Int) 10)))) % 256, (wrap64 (48 + (Int.tmod ((m : Nat) + 10 : Int) 10))) % 256] = dd m := by decide +kernel
theorem esc_a : ∀ m : Fin 90, Q.printf_escape.f 8 (((⟨#[37]⟩ : ByteArray) ++ dd m) ++ (⟨#[115]⟩ : ByteArray)) = some (⟨#[]⟩, 0) := by decide +kernel
theorem esc_b : ∀ m : Fin 90, Q.printf_escape.f 8 (((⟨#[37, 45]⟩ : ByteArray) ++ dd m) ++ (⟨#[115]⟩ : ByteArray)) = some (⟨#[]⟩, 0) := by decide +kernel
theorem conv_a : ∀ m : Fin 90, Q.printf_conversion.f 20 ((((⟨#[37]⟩ : ByteArray) ++ dd m) ++ (⟨#[115]⟩ : ByteArray)).extract 1 (((⟨#[37]⟩ : ByteArray) ++ dd m) ++ (⟨#[115]⟩ : ByteArray)).size) = some (115, 0, (((m : Nat) + 10 : Nat) : Int), 3, true) := by decide +kernel
theorem conv_b : ∀ m : Fin 90, Q.printf_conversion.f 20 ((((⟨#[37, 45]⟩ : ByteArray) ++ dd m) ++ (⟨#[115]⟩ : ByteArray)).extract 1 (((⟨#[37, 45]⟩ : ByteArray) ++ dd m) ++ (⟨#[115]⟩ : ByteArray)).size) = some (115, 45, (((m : Nat) + 10 : Nat) : Int), 4, true) := by decide +kernel
theorem size_a : ∀ m : Fin 90, (((⟨#[37]⟩ : ByteArray) ++ dd m) ++ (⟨#[115]⟩ : ByteArray)).size = 4 ∧ (((⟨#[37]⟩ : ByteArray) ++ dd m) ++ (⟨#[115]⟩ : ByteArray)).data.toList.headD 0 = 37 ∧ (dd m).size = 2 := by decide +kernel
theorem size_b : ∀ m : Fin 90, (((⟨#[37, 45]⟩ : ByteArray) ++ dd m) ++ (⟨#[115]⟩ : ByteArray)).size = 5 ∧ (((⟨#[37, 45]⟩ : ByteArray) ++ dd m) ++ (⟨#[115]⟩ : ByteArray)).data.toList.headD 0 = 37 := by decide +kernel
theorem fmt_a (m : Fin 90) (a : ByteArray) (ha : a.size ≤ 100000000) : printf_Format.f (((⟨#[37]⟩ : ByteArray) ++ dd m) ++ (⟨#[115]⟩ : ByteArray)) [a] = some (blanks (m + 10 - a.size) ++ a, 0) := by
  have hs := size_a m
  refine format_one _ a _ 115 0 ((m + 10 : Nat) : Int) 3 true (by omega) (esc_a m) hs.2.1 (conv_a m) (by rw [hs.1]; rfl) (by decide) (told_w a (m + 10) (by omega) ha) ?_ (by omega) (by decide)
  rw [ByteArray.size_append, blanks_size]
  omega
theorem fmt_b (m : Fin 90) (a : ByteArray) (ha : a.size ≤ 100000000) : printf_Format.f (((⟨#[37, 45]⟩ : ByteArray) ++ dd m) ++ (⟨#[115]⟩ : ByteArray)) [a] = some (a ++ blanks (m + 10 - a.size), 0) := by
  have hs := size_b m
  refine format_one _ a _ 115 45 ((m + 10 : Nat) : Int) 4 true (by omega) (esc_b m) hs.2 (conv_b m) (by rw [hs.1]; rfl) (by decide) (told_l a (m + 10) (by omega) ha) ?_ (by omega) (by decide)
  rw [ByteArray.size_append, blanks_size]
  omega
theorem width (a1 : Int) : ∃ m : Fin 90, wrap64 ((Int.tmod (wrap64 ((Int.tmod a1 90) + 90)) 90) + 10) = (m : Nat) + 10 := by
  have h1 : -90 < Int.tmod a1 90 ∧ Int.tmod a1 90 < 90 := ⟨by
    have h0 : (-a1).tmod 90 < 90 := Int.tmod_lt_of_pos (-a1) (by decide)
    rw [Int.neg_tmod] at h0
    omega, Int.tmod_lt_of_pos a1 (by decide)⟩
  have h2 : wrap64 ((Int.tmod a1 90) + 90) = (Int.tmod a1 90) + 90 := by unfold wrap64; omega
  rw [h2]
  have h3 : 0 ≤ Int.tmod ((Int.tmod a1 90) + 90) 90 := Int.tmod_nonneg _ (by omega)
  have h4 : Int.tmod ((Int.tmod a1 90) + 90) 90 < 90 := Int.tmod_lt_of_pos _ (by decide)
  refine ⟨⟨(Int.tmod ((Int.tmod a1 90) + 90) 90).toNat, by omega⟩, ?_⟩
  have h5 : wrap64 (Int.tmod ((Int.tmod a1 90) + 90) 90 + 10) = Int.tmod ((Int.tmod a1 90) + 90) 90 + 10 := by unfold wrap64; omega
  rw [h5]
  show _ = (((Int.tmod ((Int.tmod a1 90) + 90) 90).toNat : Nat) : Int) + 10
  omega
theorem extract_app_right (x a : ByteArray) : (x ++ a).extract x.size (x ++ a).size = a := by
  apply ByteArray.ext
  apply Array.toList_inj.1
  have h1 : x.size = x.data.toList.length := by simp
  have h2 : (x ++ a).size = x.data.toList.length + a.data.toList.length := by rw [ByteArray.size_append]; simp
  rw [ByteArray.data_extract, ByteArray.data_append, h1, h2]
  simp
  rw [List.drop_of_length_le (by rw [← h1]; exact Nat.le_refl _), List.take_nil, List.nil_append, List.take_of_length_le (by simp)]
theorem extract_app_left (x a : ByteArray) : (x ++ a).extract 0 x.size = x := by
  apply ByteArray.ext
  apply Array.toList_inj.1
  have h1 : x.size = x.data.toList.length := by simp
  rw [ByteArray.data_extract, ByteArray.data_append, h1]
  simp
  rw [List.take_of_length_le (by rw [← h1]; exact Nat.le_refl _)]
theorem PrintfWideU (a0 : ByteArray) (a1 : Int) (h : a0.size ≤ 1048576) : cowrielaw09_PrintfWide.f a0 a1 = some true := by
  obtain ⟨m, hm⟩ := width a1
  unfold cowrielaw09_PrintfWide.f
  rw [alive_ok, Option.bind_some, if_pos rfl, hm, Option.bind_some, digs m]
  have hd := (size_a m).2.2
  have hb := m.isLt
  have hmx : mx ((m : Nat) + 10 : Int) (a0.size : Int) = ((m + 10 - a0.size + a0.size : Nat) : Int) := by
    unfold mx
    split <;> omega
  have hw : wrap64 (((m + 10 - a0.size + a0.size : Nat) : Int) - (a0.size : Int)) = ((m + 10 - a0.size : Nat) : Int) := by
    unfold wrap64
    omega
  rw [if_pos (by omega), if_pos (by rw [ByteArray.size_append, hd]; decide), fmt_a m a0 (by omega), Option.bind_some, if_pos (by omega), if_pos (by rw [ByteArray.size_append, hd]; decide), fmt_b m a0 (by omega), Option.bind_some]
  rw [if_pos rfl, if_pos rfl, hmx, hw]
  have s1 : (blanks (m + 10 - a0.size) ++ a0).size = m + 10 - a0.size + a0.size := by rw [ByteArray.size_append, blanks_size]
  have s2 : (a0 ++ blanks (m + 10 - a0.size)).size = m + 10 - a0.size + a0.size := by rw [ByteArray.size_append, blanks_size]; omega
  have e1 : (blanks (m + 10 - a0.size) ++ a0).extract (((m + 10 - a0.size : Nat) : Int)).toNat (blanks (m + 10 - a0.size) ++ a0).size = a0 := by
    have := extract_app_right (blanks (m + 10 - a0.size)) a0
    rw [blanks_size] at this
    exact this
  have e2 : (a0 ++ blanks (m + 10 - a0.size)).extract 0 ((a0.size : Int)).toNat = a0 := extract_app_left a0 _
  rw [if_pos (by show ((blanks (m + 10 - a0.size) ++ a0).size : Int) = _; rw [s1]), if_pos (by show ((a0 ++ blanks (m + 10 - a0.size)).size : Int) = _; rw [s2]), if_pos (by omega), if_pos (by show _ ≤ ((blanks (m + 10 - a0.size) ++ a0).size : Int); rw [s1]; omega)]
  rw [if_pos (by show ((blanks (m + 10 - a0.size) ++ a0).extract _ (blanks (m + 10 - a0.size) ++ a0).size).toList = _; rw [e1]), if_pos (by omega), if_pos (by show _ ≤ ((a0 ++ blanks (m + 10 - a0.size)).size : Int); rw [s2]; omega)]
  show some ((ByteArray.extract (a0 ++ blanks (m + 10 - a0.size)) 0 ((a0.size : Int)).toNat).toList == a0.toList) = _
  rw [e2]
  simp
end Go.Proofs.YtagdkbncfcdhdaaDoor.PurePf

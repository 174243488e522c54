/- Proved: what number.Parse (as the print tells it) answers, over lists of octets. Plain Lean: no program's step. -/
import Derived.Test.YtciflnnagkdjiaaDoorVsR1
import Derived.Lib.SlTrimSet
import Derived.Laws.Bits64
namespace Go.Proofs.YtciflnnagkdjiaaDoor.Ext
open Go.RowKit Go.Proofs.YtciflnnagkdjiaaDoor.R Go.Proofs.YtciflnnagkdjiaaDoorW.PrintWords
def signL : List UInt8 → List UInt8 × Bool
  | [] => ([], false)
  | c :: l => if c = 45 then (l, true) else if c = 43 then (l, false) else (c :: l, false)
def parseL (l : List UInt8) : Int × Int :=
  let t := signL (Lib.trimS l [32, 9])
  match digitsGo 10 t.1 0 with
  | none => (0, 33)
  | some n => if t.1 = [] then (0, 33) else if t.2 then (wrap64 (IntKind.u64.wrap (-n)), 0) else (wrap64 n, 0)
theorem ba_size (a : ByteArray) : a.size = a.data.toList.length := by simp
theorem hp_one (a : ByteArray) (c : UInt8) : stringslite_HasPrefix.f a ⟨#[c]⟩ = some (a.data.toList.head? == some c) := by
  unfold stringslite_HasPrefix.f
  have hs : ((⟨#[c]⟩ : ByteArray).size : Int) = 1 := rfl
  rw [hs]
  by_cases h : (a.size : Int) ≥ 1
  · rw [if_pos h, if_pos (by omega), if_pos h, Lib.toList_data, Lib.toList_data, ByteArray.data_extract]
    congr 1
    rw [ba_size] at h
    have e1 : (a.data.extract 0 (1 : Int).toNat).toList = a.data.toList.take 1 := by simp
    rw [e1]
    cases e : a.data.toList with
    | nil => rw [e] at h; simp at h
    | cons x l => simp
  · rw [if_neg h]
    congr 1
    rw [ba_size] at h
    cases e : a.data.toList with
    | nil => rfl
    | cons x l => rw [e] at h; simp only [List.length_cons] at h; omega
theorem tail_data (a : ByteArray) : (a.extract 1 a.size).data.toList = a.data.toList.drop 1 := by
  simp [ByteArray.data_extract]
  rw [List.take_of_length_le (by simp)]
theorem cut_one_pre (a : ByteArray) (c : UInt8) : strings_CutPrefix.f a ⟨#[c]⟩ = some (if a.data.toList.head? = some c then (a.extract 1 a.size, true) else (a, false)) := by
  unfold strings_CutPrefix.f stringslite_CutPrefix.f
  rw [hp_one]
  simp only [Option.bind_some]
  by_cases h : a.data.toList.head? = some c
  · have hl : 1 ≤ a.size := by
      rw [ba_size]
      cases e : a.data.toList with
      | nil => rw [e] at h; cases h
      | cons x l => simp
    rw [if_pos h, if_pos (by rw [h]; simp), if_pos (by show (0 : Int) ≤ 1; omega), if_pos (by show (1 : Int) ≤ _; omega)]
    rfl
  · rw [if_neg h, if_neg (by simpa using h)]
    rfl
theorem trim_one_pre (a : ByteArray) (c : UInt8) : strings_TrimPrefix.f a ⟨#[c]⟩ = some (if a.data.toList.head? = some c then a.extract 1 a.size else a) := by
  unfold strings_TrimPrefix.f stringslite_TrimPrefix.f
  rw [hp_one]
  simp only [Option.bind_some]
  by_cases h : a.data.toList.head? = some c
  · have hl : 1 ≤ a.size := by
      rw [ba_size]
      cases e : a.data.toList with
      | nil => rw [e] at h; cases h
      | cons x l => simp
    rw [if_pos h, if_pos (by rw [h]; simp), if_pos (by show (0 : Int) ≤ 1; omega), if_pos (by show (1 : Int) ≤ _; omega)]
    rfl
  · rw [if_neg h, if_neg (by simpa using h)]
    rfl
theorem sign_spec (s : ByteArray) : ∃ t, number_sign.f s = some (t, (signL s.data.toList).2) ∧ t.data.toList = (signL s.data.toList).1 := by
  unfold number_sign.f
  rw [cut_one_pre, trim_one_pre]
  have ht := tail_data s
  cases e : s.data.toList with
  | nil =>
    simp only [List.head?_nil, reduceCtorEq, if_false, Option.bind_some, Bool.false_eq_true]
    exact ⟨s, rfl, e⟩
  | cons x l =>
    rw [e, List.drop_succ_cons, List.drop_zero] at ht
    simp only [List.head?_cons, Option.some.injEq, signL]
    by_cases h1 : x = 45
    · rw [if_pos h1, if_pos h1]
      exact ⟨_, rfl, ht⟩
    · rw [if_neg h1, if_neg h1]
      by_cases h2 : x = 43
      · rw [if_pos h2, if_pos h2]
        exact ⟨_, rfl, ht⟩
      · rw [if_neg h2, if_neg h2]
        exact ⟨_, rfl, e⟩
theorem dropWhile_le (p : UInt8 → Bool) (l : List UInt8) : (l.dropWhile p).length ≤ l.length := by
  induction l with
  | nil => simp
  | cons x l ih =>
    rw [List.dropWhile_cons]
    split
    · simp only [List.length_cons]; omega
    · simp
theorem trim_le (l cs : List UInt8) : (Lib.trimS l cs).length ≤ l.length := by
  unfold Lib.trimS Lib.trimLeftS Lib.trimRightS
  refine Nat.le_trans (dropWhile_le _ _) ?_
  rw [List.length_reverse]
  refine Nat.le_trans (dropWhile_le _ _) ?_
  simp
theorem signL_le (l : List UInt8) : (signL l).1.length ≤ l.length := by
  cases l with
  | nil => simp [signL]
  | cons c l =>
    simp only [signL]
    split
    · simp
    · split <;> simp
theorem parse_spec (s : ByteArray) (hs : s.size ≤ 9223372036854775807) : number_Parse.f s = some (parseL s.data.toList) := by
  have htr : strings_Trim.f s (⟨#[32, 9]⟩ : ByteArray) = some ⟨(Lib.trimS s.data.toList [32, 9]).toArray⟩ := by
    unfold strings_Trim.f
    rw [if_pos ⟨hs, by decide, by decide⟩]
  unfold number_Parse.f
  rw [htr]
  simp only [Option.bind_some]
  obtain ⟨t, h1, h2⟩ := sign_spec ⟨(Lib.trimS s.data.toList [32, 9]).toArray⟩
  rw [h1]
  simp only [Option.bind_some]
  have h2' : t.data.toList = (signL (Lib.trimS s.data.toList [32, 9])).1 := h2
  have hsz : t.size ≤ 9223372036854775807 := by
    rw [ba_size, h2']
    have a := signL_le (Lib.trimS s.data.toList [32, 9])
    have b := trim_le s.data.toList [32, 9]
    have c := ba_size s
    omega
  have he : t.toList.isEmpty = ((signL (Lib.trimS s.data.toList [32, 9])).1).isEmpty := by rw [Lib.toList_data, h2']
  unfold number_digits.f parseL
  rw [if_pos ⟨by omega, by omega, hsz⟩, h2', he]
  show _ = some (match digitsGo 10 (signL (Lib.trimS s.data.toList [32, 9])).1 0 with | none => _ | some n => _)
  generalize (signL (Lib.trimS s.data.toList [32, 9])).1 = u
  have hb : (signL (({ data := (Lib.trimS s.data.toList [32, 9]).toArray } : ByteArray).data.toList)).2 = (signL (Lib.trimS s.data.toList [32, 9])).2 := rfl
  rw [hb]
  generalize (signL (Lib.trimS s.data.toList [32, 9])).2 = b
  cases digitsGo 10 u 0 with
  | none => rfl
  | some n =>
    cases u with
    | nil => rfl
    | cons x u => cases b <;> rfl
end Go.Proofs.YtciflnnagkdjiaaDoor.Ext

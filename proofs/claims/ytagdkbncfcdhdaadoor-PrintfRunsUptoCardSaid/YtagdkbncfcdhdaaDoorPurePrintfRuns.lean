/- Proved: PrintfRuns' law (as told) answers true for rows of words whose bulk is at most 1048576. Plain Lean: no program's step. -/
import Derived.Test.YtagdkbncfcdhdaaDoorP56
import Derived.Test.YtagdkbncfcdhdaaDoorPurePrintf
set_option linter.unusedVariables false
namespace Go.Proofs.YtagdkbncfcdhdaaDoor.PurePf
open Go.RowKit Go.Proofs.YtagdkbncfcdhdaaDoor.P Go.Proofs.YtagdkbncfcdhdaaDoor.Ext Go.Proofs.YtagdkbncfcdhdaaDoorW.PrintWords

theorem told_a (l : List ByteArray) (o : List UInt8) (st tk : Int) (ha : (l.headD ⟨#[]⟩).size ≤ 100000000) (ho : o.length ≤ 10000000000) : oneF 200 115 0 0 ⟨o, l, st, tk⟩ = some ⟨o ++ (l.headD ⟨#[]⟩).data.toList, l.tail, st, wrap64 (tk + 1)⟩ := by
  unfold oneF
  rw [if_neg (by decide), told_s _ ha, Option.bind_some, if_pos (by show o.length + (l.headD ⟨#[]⟩).size ≤ _; omega), if_pos rfl]
/-- One time: a word between < and >. -/
theorem once_run (l : List ByteArray) (o : List UInt8) (st tk : Int) (ha : (l.headD ⟨#[]⟩).size ≤ 100000000) (ho : o.length ≤ 1000000000) : onceF 200 5 ⟨#[60, 37, 115, 62]⟩ ⟨o, l, st, tk⟩ = some (⟨o ++ [60] ++ (l.headD ⟨#[]⟩).data.toList ++ [62], l.tail, st, wrap64 (tk + 1)⟩, true) := by
  have e1 : Q.printf_escape.f 8 (⟨#[60, 37, 115, 62]⟩ : ByteArray) = some (⟨#[]⟩, 0) := by decide +kernel
  have e2 : (⟨#[60, 37, 115, 62]⟩ : ByteArray).extract 1 (⟨#[60, 37, 115, 62]⟩ : ByteArray).size = ⟨#[37, 115, 62]⟩ := by decide +kernel
  have e3 : Q.printf_escape.f 8 (⟨#[37, 115, 62]⟩ : ByteArray) = some (⟨#[]⟩, 0) := by decide +kernel
  have e4 : Q.printf_conversion.f 20 ((⟨#[37, 115, 62]⟩ : ByteArray).extract 1 (⟨#[37, 115, 62]⟩ : ByteArray).size) = some (115, 0, 0, 1, true) := by decide +kernel
  have e5 : (⟨#[37, 115, 62]⟩ : ByteArray).extract ((1 + (1 : Int)).toNat) (⟨#[37, 115, 62]⟩ : ByteArray).size = ⟨#[62]⟩ := by decide +kernel
  have e6 : Q.printf_escape.f 8 (⟨#[62]⟩ : ByteArray) = some (⟨#[]⟩, 0) := by decide +kernel
  have hs : (l.headD ⟨#[]⟩).data.toList.length = (l.headD ⟨#[]⟩).size := by simp
  rw [onceF, if_neg (by decide), e1, Option.bind_some, if_neg (by decide), if_pos (by decide), if_pos (by show o.length + 1 ≤ _; omega), e2]
  rw [onceF, if_neg (by decide), e3, Option.bind_some, if_neg (by decide), if_neg (by decide), e4, Option.bind_some, if_pos rfl]
  rw [show ((⟨#[60, 37, 115, 62]⟩ : ByteArray).data.toList.headD 0) = 60 from rfl]
  rw [told_a l (o ++ [60]) st tk ha (by rw [List.length_append, List.length_singleton]; omega), Option.bind_some, if_pos (by decide), e5]
  rw [onceF, if_neg (by decide), e6, Option.bind_some, if_neg (by decide), if_pos (by decide), if_pos (by show (o ++ [60] ++ (l.headD ⟨#[]⟩).data.toList).length + 1 ≤ _; simp only [List.length_append, List.length_singleton]; omega), onceF, if_pos (by decide)]
  rfl

def flat : List ByteArray → List UInt8
  | [] => []
  | a :: l => [60] ++ a.data.toList ++ [62] ++ flat l
def tot : List ByteArray → Nat
  | [] => 0
  | a :: l => a.size + 2 + tot l
theorem flat_len : ∀ l, (flat l).length = tot l
  | [] => rfl
  | a :: l => by
    have hs : a.data.toList.length = a.size := by simp
    have := flat_len l
    rw [flat, tot]
    simp only [List.length_append, List.length_singleton]
    omega
theorem runs : ∀ (l : List ByteArray) (a : ByteArray) (o : List UInt8) (tk : Nat) (n : Nat), l.length + 1 ≤ n → tot (a :: l) ≤ 100000000 → o.length + tot (a :: l) ≤ 1000000000 → tk + l.length + 1 ≤ 1000000000 →
    ∃ t, formatF 200 ⟨#[60, 37, 115, 62]⟩ n ⟨o, a :: l, 0, tk⟩ = some ⟨o ++ flat (a :: l), [], 0, t⟩ := by
  intro l
  induction l with
  | nil =>
    intro a o tk n hn ht ho hk
    obtain ⟨n, rfl⟩ : ∃ m, n = m + 1 := ⟨n - 1, by omega⟩
    have hta : tot [a] = a.size + 2 := by rw [tot, tot]
    refine ⟨wrap64 (tk + 1), ?_⟩
    rw [formatF, show (⟨#[60, 37, 115, 62]⟩ : ByteArray).size + 1 = 5 from rfl, once_run [a] o 0 tk (by show a.size ≤ _; omega) (by omega), Option.bind_some, if_pos rfl, if_pos (by rfl)]
    rw [flat, flat, List.append_nil]
    simp
  | cons b l ih =>
    intro a o tk n hn ht ho hk
    obtain ⟨n, rfl⟩ : ∃ m, n = m + 1 := ⟨n - 1, by omega⟩
    have hta : tot (a :: b :: l) = a.size + 2 + tot (b :: l) := by rw [tot]
    rw [List.length_cons] at hn hk
    have hw : wrap64 ((tk : Int) + 1) = ((tk + 1 : Nat) : Int) := by unfold wrap64; omega
    have hs : a.data.toList.length = a.size := by simp
    obtain ⟨t, hi⟩ := ih b (o ++ [60] ++ a.data.toList ++ [62]) (tk + 1) n (by omega) (by omega) (by simp only [List.length_append, List.length_singleton]; omega) (by omega)
    refine ⟨t, ?_⟩
    rw [formatF, show (⟨#[60, 37, 115, 62]⟩ : ByteArray).size + 1 = 5 from rfl, once_run (a :: b :: l) o 0 tk (by show a.size ≤ _; omega) (by omega), Option.bind_some, if_pos rfl, if_neg (by simp), if_pos (by rw [hw]; show (0 : Int) < ((tk + 1 : Nat) : Int); omega), hw]
    rw [show flat (a :: b :: l) = [60] ++ a.data.toList ++ [62] ++ flat (b :: l) from by rw [flat]]
    refine Eq.trans hi ?_
    simp
/-- What the format makes of words: each between < and >; of none one empty. -/
theorem format_run (l : List ByteArray) (ht : tot l ≤ 100000000) (hl : l.length ≤ 100000000) : printf_Format.f ⟨#[60, 37, 115, 62]⟩ l = some (if l = [] then ⟨#[60, 62]⟩ else ⟨(flat l).toArray⟩, 0) := by
  unfold printf_Format.f
  rw [if_pos (by decide)]
  cases l with
  | nil =>
    rw [show ([] : List ByteArray).length + 2 = 1 + 1 from rfl, formatF, show (⟨#[60, 37, 115, 62]⟩ : ByteArray).size + 1 = 5 from rfl, once_run [] [] 0 0 (by decide) (by decide), Option.bind_some, if_pos rfl, if_pos (by rfl)]
    rfl
  | cons a l =>
    rw [List.length_cons] at hl
    obtain ⟨t, h⟩ := runs l a [] 0 ((a :: l).length + 2) (by rw [List.length_cons]; omega) ht (by rw [List.length_nil]; omega) (by omega)
    rw [show (⟨[], a :: l, 0, 0⟩ : St) = ⟨[], a :: l, 0, ((0 : Nat) : Int)⟩ from rfl, h, if_neg (by simp)]
    simp
theorem flat_snoc : ∀ (l : List ByteArray) (a : ByteArray), flat (l ++ [a]) = flat l ++ ([60] ++ a.data.toList ++ [62])
  | [], a => by rw [List.nil_append, flat, flat, flat, List.append_nil, List.nil_append]
  | b :: l, a => by rw [List.cons_append, flat, flat_snoc l a, flat]; simp only [List.append_assoc]
theorem tot_snoc : ∀ (l : List ByteArray) (a : ByteArray), tot (l ++ [a]) = tot l + (a.size + 2)
  | [], a => by rw [List.nil_append, tot, tot, tot]; omega
  | b :: l, a => by rw [List.cons_append, tot, tot_snoc l a, tot]; omega
theorem tot_le : ∀ l : List ByteArray, tot l ≤ (l.map fun y0 => y0.size + 1).sum * 2
  | [] => Nat.zero_le _
  | x :: l => by
    have := tot_le l
    rw [List.map_cons, List.sum_cons, tot]
    omega
theorem len_bulk : ∀ l : List ByteArray, l.length ≤ (l.map fun y0 => y0.size + 1).sum
  | [] => Nat.zero_le _
  | x :: l => by
    have := len_bulk l
    rw [List.map_cons, List.sum_cons, List.length_cons]
    omega
theorem ba_of_list (l : List UInt8) : (⟨l.toArray⟩ : ByteArray).size = l.length := by simp [ByteArray.size]
theorem ba_app (l m : List UInt8) : (⟨l.toArray⟩ : ByteArray) ++ ⟨m.toArray⟩ = ⟨(l ++ m).toArray⟩ := by
  apply ByteArray.ext
  rw [ByteArray.data_append]
  simp
theorem want (l0 : List ByteArray) (r : ByteArray) (hl : l0.length ≤ 100000000) (ht : tot l0 ≤ 100000000) (hr : r = if l0 = [] then (⟨#[60, 62]⟩ : ByteArray) else ⟨(flat l0).toArray⟩) :
    ∀ (d i : Nat), d + i = l0.length → cowrielaw09_PrintfRuns.l0 (d + 1) l0 r 0 ⟨(flat (l0.take i)).toArray⟩ i = some true := by
  intro d
  induction d with
  | zero =>
    intro i hi
    rw [cowrielaw09_PrintfRuns.l0, if_neg (by omega)]
    have hti : l0.take i = l0 := List.take_of_length_le (by omega)
    rw [hti]
    by_cases h0 : l0 = []
    · subst h0
      rw [hr, if_pos (by decide : (([] : List ByteArray).length : Int) = 0), if_pos rfl]
      decide +kernel
    · have hl0 : ¬ ((l0.length : Int) = 0) := by
        intro e
        exact h0 (List.length_eq_zero_iff.1 (by omega))
      rw [if_neg hl0, if_pos rfl, hr, if_neg h0]
      simp
  | succ d ih =>
    intro i hi
    have hiL : i < l0.length := by omega
    have htk : l0.take (i + 1) = l0.take i ++ [l0[i]] := (List.take_append_getElem hiL).symm
    have hsp : tot l0 = tot (l0.take i) + tot (l0.drop i) := by
      have : ∀ a b : List ByteArray, tot (a ++ b) = tot a + tot b := fun a b => by
        induction a with
        | nil => rw [List.nil_append, tot, Nat.zero_add]
        | cons x a ih => rw [List.cons_append, tot, tot, ih]; omega
      rw [← this, List.take_append_drop]
    have hdr : l0.drop i = l0[i] :: l0.drop (i + 1) := List.drop_eq_getElem_cons hiL
    have hsz : tot (l0.take i) + (l0[i].size + 2) ≤ 100000000 := by
      rw [hdr, tot] at hsp
      omega
    have hrd : rdOf ByteArray.empty l0 ((i : Nat) : Int) = l0[i] := by
      unfold rdOf
      rw [Int.toNat_natCast, List.getD_eq_getElem?_getD, List.getElem?_eq_getElem hiL]
      rfl
    have hfl := flat_len (l0.take i)
    have s1 : (⟨(flat (l0.take i)).toArray⟩ : ByteArray).size = tot (l0.take i) := by rw [ba_of_list, hfl]
    have e1 : ((⟨(flat (l0.take i)).toArray⟩ : ByteArray) ++ (⟨#[60]⟩ : ByteArray)) ++ l0[i] ++ (⟨#[62]⟩ : ByteArray) = ⟨(flat (l0.take (i + 1))).toArray⟩ := by
      rw [htk, flat_snoc]
      apply ByteArray.ext
      rw [ByteArray.data_append, ByteArray.data_append, ByteArray.data_append]
      apply Array.toList_inj.1
      simp
    have hw : wrap64 (((i : Nat) : Int) + 1) = ((i + 1 : Nat) : Int) := by unfold wrap64; omega
    rw [cowrielaw09_PrintfRuns.l0, if_pos (by omega), if_pos (by rw [s1]; omega), if_pos (by omega), hrd, if_pos (by rw [ByteArray.size_append, s1]; show _ + 1 + _ ≤ _; omega), if_pos (by rw [ByteArray.size_append, ByteArray.size_append, s1]; show _ + 1 + _ + 1 ≤ _; omega), e1, hw]
    exact ih (i + 1) (by omega)
theorem PrintfRunsU (l0 : List ByteArray) (hb : (l0.map fun y0 => y0.size + 1).sum ≤ 1048576) : ∃ k, cowrielaw09_PrintfRuns.f k l0 = some true := by
  have hl := len_bulk l0
  have ht := tot_le l0
  refine ⟨l0.length + 1, ?_⟩
  unfold cowrielaw09_PrintfRuns.f
  rw [alive_ok, Option.bind_some, if_pos rfl, format_run l0 (by omega) (by omega), Option.bind_some]
  exact want l0 _ (by omega) (by omega) rfl l0.length 0 (by omega)
end Go.Proofs.YtagdkbncfcdhdaaDoor.PurePf

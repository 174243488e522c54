/- Proved: PrintfPlain's law (as told) answers true for every text and words whose bulk is at most 1048576; what a format without backslashes and % does, and what printf.Escape makes of a text without backslashes: itself. Plain Lean: no program's step. -/
import Derived.Test.YtagdkbncfcdhdaaDoorP59
import Derived.Test.YtagdkbncfcdhdaaDoorPurePrintf
set_option linter.unusedVariables false
namespace Go.Proofs.YtagdkbncfcdhdaaDoor.PurePf
open Go.RowKit Go.Proofs.YtagdkbncfcdhdaaDoor.P Go.Proofs.YtagdkbncfcdhdaaDoor.Ext Go.Proofs.YtagdkbncfcdhdaaDoorW.PrintWords

theorem ba_size (a : ByteArray) : a.size = a.data.toList.length := by simp
theorem hp_one (a : ByteArray) (c : UInt8) : Q.stringslite_HasPrefix.f a ⟨#[c]⟩ = some (a.data.toList.head? == some c) := by
  unfold Q.stringslite_HasPrefix.f
  have hs : ((⟨#[c]⟩ : ByteArray).size : Int) = 1 := rfl
  rw [hs]
  by_cases h : (a.size : Int) ≥ 1
  · rw [if_pos h, if_pos (by omega), if_pos h, Lib.toList_data, Lib.toList_data, ByteArray.data_extract]
    congr 1
    rw [ba_size] at h
    have e1 : (a.data.extract 0 (1 : Int).toNat).toList = a.data.toList.take 1 := by simp
    rw [e1]
    cases e : a.data.toList with
    | nil => rw [e] at h; simp at h
    | cons x l => simp
  · rw [if_neg h]
    congr 1
    rw [ba_size] at h
    cases e : a.data.toList with
    | nil => rfl
    | cons x l => rw [e] at h; simp only [List.length_cons] at h; omega
theorem tail_list (a : ByteArray) (c : UInt8) (l : List UInt8) (h : a.data.toList = c :: l) : (a.extract 1 a.size).data.toList = l := by
  have : (a.extract 1 a.size).data.toList = a.data.toList.drop 1 := by
    simp [ByteArray.data_extract]
    rw [List.take_of_length_le (by simp)]
  rw [this, h]
  rfl
theorem head_list (a : ByteArray) (c : UInt8) (l : List UInt8) (h : a.data.toList = c :: l) : (a.extract 0 1).data.toList = [c] := by
  have : (a.extract 0 1).data.toList = a.data.toList.take 1 := by
    simp [ByteArray.data_extract]
  rw [this, h]
  rfl
theorem esc_plain (x : ByteArray) (c : UInt8) (l : List UInt8) (h : x.data.toList = c :: l) (hc : c ≠ 92) : Q.printf_escape.f 8 x = some (⟨#[]⟩, 0) := by
  unfold Q.printf_escape.f Q.strings_HasPrefix.f
  rw [hp_one, h]
  have : ((c :: l).head? == some 92) = false := by
    rw [List.head?_cons]
    exact beq_eq_false_iff_ne.2 (fun e => hc (Option.some.inj e))
  rw [this, Option.bind_some, Option.bind_some, if_neg (by simp), show (8 : Nat) = 7 + 1 from rfl, Q.printf_escape.j0, if_pos rfl]
theorem once_plain : ∀ (n : Nat) (x : ByteArray) (o : List UInt8) (args : List ByteArray) (st tk : Int), (∀ c ∈ x.data.toList, c ≠ 92 ∧ c ≠ 37) → x.size + 1 ≤ n → o.length + x.size ≤ 1000000000 →
    onceF 200 n x ⟨o, args, st, tk⟩ = some (⟨o ++ x.data.toList, args, st, tk⟩, true) := by
  intro n
  induction n with
  | zero => intro x o args st tk _ h; omega
  | succ n ih =>
    intro x o args st tk hp hn ho
    rw [onceF]
    cases e : x.data.toList with
    | nil =>
      rw [if_pos (by rw [ba_size, e]; rfl), List.append_nil]
    | cons c l =>
      have hs : x.size = l.length + 1 := by rw [ba_size, e, List.length_cons]
      have hc := hp c (by rw [e]; exact List.mem_cons_self)
      rw [if_neg (by omega), esc_plain x c l e hc.1, Option.bind_some, if_neg (by decide), if_pos (by rw [List.headD_cons]; exact hc.2), if_pos (by show o.length + 1 ≤ _; omega)]
      have ht := tail_list x c l e
      rw [List.headD_cons, ih (x.extract 1 x.size) (o ++ [c]) args st tk (by rw [ht]; exact fun d hd => hp d (by rw [e]; exact List.mem_cons_of_mem _ hd)) (by rw [ba_size, ht]; omega) (by rw [ba_size, ht, List.length_append, List.length_singleton]; omega), ht]
      simp
theorem escL_plain : ∀ (n : Nat) (x : ByteArray), (∀ c ∈ x.data.toList, c ≠ 92) → x.size + 1 ≤ n → escL n x = some x.data.toList := by
  intro n
  induction n with
  | zero => intro x _ h; omega
  | succ n ih =>
    intro x hp hn
    rw [escL]
    cases e : x.data.toList with
    | nil => rw [if_pos (by rw [ba_size, e]; rfl)]
    | cons c l =>
      have hs : x.size = l.length + 1 := by rw [ba_size, e, List.length_cons]
      have hc := hp c (by rw [e]; exact List.mem_cons_self)
      have ht := tail_list x c l e
      rw [if_neg (by omega), esc_plain x c l e hc, Option.bind_some, if_pos rfl, ih (x.extract 1 x.size) (by rw [ht]; exact fun d hd => hp d (by rw [e]; exact List.mem_cons_of_mem _ hd)) (by rw [ba_size, ht]; omega), head_list x c l e, ht]
      rfl
theorem escape_plain (x : ByteArray) (hp : ∀ c ∈ x.data.toList, c ≠ 92) (hs : x.size ≤ 100000000) : printf_Escape.f x = some x := by
  unfold printf_Escape.f
  rw [if_pos (by omega), escL_plain (x.size + 1) x hp (by omega)]
  rfl
theorem format_plain (x : ByteArray) (args : List ByteArray) (hp : ∀ c ∈ x.data.toList, c ≠ 92 ∧ c ≠ 37) (hs : x.size ≤ 100000000) : printf_Format.f x args = some (x, 0) := by
  unfold printf_Format.f
  rw [if_pos (by omega), show args.length + 2 = args.length + 1 + 1 from rfl, formatF, once_plain (x.size + 1) x [] args 0 0 hp (by omega) (by show 0 + x.size ≤ _; omega), Option.bind_some, if_pos rfl]
  rw [List.nil_append]
  split <;> rfl
theorem conv_plain (x : ByteArray) (hp : ∀ c ∈ x.data.toList, c ≠ 92 ∧ c ≠ 37) (hs : x.size ≤ 100000000) : printf_Conversions.f x = some 0 := by
  unfold printf_Conversions.f
  rw [if_pos (by omega), once_plain (x.size + 1) x [] [] 0 0 hp (by omega) (by show 0 + x.size ≤ _; omega)]
  rfl
theorem plain_l0 (x : ByteArray) (args : List ByteArray) (hs : x.size ≤ 100000000) : ∀ (d i : Nat), d + i = x.size → (∀ j, j < i → ∀ c, x.data.toList[j]? = some c → c ≠ 92 ∧ c ≠ 37) → cowrielaw09_PrintfPlain.l0 (d + 1) x args i = some true := by
  intro d
  induction d with
  | zero =>
    intro i hi hp
    have hp' : ∀ c ∈ x.data.toList, c ≠ 92 ∧ c ≠ 37 := by
      intro c hc
      obtain ⟨j, hj, e⟩ := List.mem_iff_getElem.1 hc
      have := ba_size x
      exact hp j (by omega) c (by rw [List.getElem?_eq_getElem hj, e])
    rw [cowrielaw09_PrintfPlain.l0, if_neg (by omega), format_plain x args hp' hs, Option.bind_some, if_pos rfl, if_pos rfl, escape_plain x (fun c hc => (hp' c hc).1) hs, Option.bind_some, if_pos rfl, conv_plain x hp' hs]
    rfl
  | succ d ih =>
    intro i hi hp
    have hi2 : i < x.size := by omega
    have hiL : i < x.data.toList.length := by have := ba_size x; omega
    have hbt : bt x ((i : Nat) : Int) = ((x.data.toList[i].toNat : Nat) : Int) := by
      rw [← bt_at x i (by rw [Int.toNat_natCast]; exact hi2)]
      simp
      rfl
    rw [cowrielaw09_PrintfPlain.l0, if_pos (by omega), if_pos (by omega)]
    by_cases h1 : bt x ((i : Nat) : Int) = 92
    · rw [if_pos h1]
    rw [if_neg h1]
    by_cases h2 : bt x ((i : Nat) : Int) = 37
    · rw [if_pos h2]
    rw [if_neg h2, show wrap64 (((i : Nat) : Int) + 1) = ((i + 1 : Nat) : Int) from by unfold wrap64; omega]
    refine ih (i + 1) (by omega) fun j hj c hc => ?_
    rcases Nat.lt_or_ge j i with h | h
    · exact hp j h c hc
    · obtain rfl : j = i := by omega
      rw [List.getElem?_eq_getElem hiL] at hc
      obtain rfl := Option.some.inj hc
      rw [hbt] at h1 h2
      constructor
      · intro e; rw [e] at h1; exact h1 rfl
      · intro e; rw [e] at h2; exact h2 rfl
theorem PrintfPlainU (a0 : ByteArray) (l1 : List ByteArray) (h : a0.size ≤ 1048576) : ∃ k, cowrielaw09_PrintfPlain.f k a0 l1 = some true := by
  refine ⟨a0.size + 1, ?_⟩
  unfold cowrielaw09_PrintfPlain.f
  rw [alive_ok, Option.bind_some, if_pos rfl]
  exact plain_l0 a0 l1 (by omega) a0.size 0 (by omega) (fun j hj => by omega)
end Go.Proofs.YtagdkbncfcdhdaaDoor.PurePf

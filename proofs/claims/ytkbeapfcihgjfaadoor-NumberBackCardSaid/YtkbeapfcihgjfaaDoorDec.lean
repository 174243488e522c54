/- Proved: the digits of a number are read as it; texts without blanks are not trimmed; blanks around are. Plain Lean: no program's step. -/
import Derived.Test.YtkbeapfcihgjfaaDoorPr
import Derived.Lib.SlTrimSet
import Derived.Laws.Bits64
namespace Go.Proofs.YtkbeapfcihgjfaaDoor.Ext
open Go.RowKit Go.Proofs.YtkbeapfcihgjfaaDoorW.PrintWords

theorem digitsGo_append (b : Int) : ∀ (l1 l2 : List UInt8) (n : Int), digitsGo b (l1 ++ l2) n = (digitsGo b l1 n).bind (digitsGo b l2)
  | [], _, _ => rfl
  | c :: l1, l2, n => by
    simp only [List.cons_append, digitsGo]
    split
    · rfl
    · exact digitsGo_append b l1 l2 _

theorem dig10 : ∀ r : Fin 10, digitOf 10 (((48 + r.val).toUInt8.toNat : Int)) = (r.val : Int) := by decide +kernel
theorem dig10' (r : Nat) (h : r < 10) : digitOf 10 (((48 + r).toUInt8.toNat : Int)) = (r : Int) := dig10 ⟨r, h⟩

theorem decs_read (n : Nat) : n < 18446744073709551616 → digitsGo 10 (decs n) 0 = some (n : Int) := by
  induction n using Nat.strongRecOn with
  | ind n ih =>
    intro hn
    rw [decs]
    split
    · rename_i h
      simp only [digitsGo]
      rw [dig10' n h, if_neg (by omega), IntKind.wrap_u64, IntKind.wrap_u64]
      congr 1
      omega
    · rename_i h
      rw [digitsGo_append, ih (n / 10) (by omega) (by omega)]
      simp only [Option.bind_some, digitsGo]
      rw [dig10' (n % 10) (by omega), if_neg (by omega), IntKind.wrap_u64, IntKind.wrap_u64]
      congr 1
      omega

theorem decs_digit (n : Nat) : ∀ x ∈ decs n, 48 ≤ x.toNat ∧ x.toNat ≤ 57 := by
  induction n using Nat.strongRecOn with
  | ind n ih =>
    intro x hx
    rw [decs] at hx
    split at hx
    · rename_i h
      obtain rfl := List.mem_singleton.1 hx
      rw [UInt8.toNat_ofNat']
      omega
    · rename_i h
      rcases List.mem_append.1 hx with hx | hx
      · exact ih (n / 10) (by omega) x hx
      · obtain rfl := List.mem_singleton.1 hx
        rw [UInt8.toNat_ofNat']
        omega
theorem decs_ne (n : Nat) : decs n ≠ [] := by
  rw [decs]
  split <;> simp

theorem dropWhile_id (p : UInt8 → Bool) (l : List UInt8) (h : ∀ x ∈ l, p x = false) : l.dropWhile p = l := by
  cases l with
  | nil => rfl
  | cons x l => rw [List.dropWhile_cons, if_neg (by rw [h x List.mem_cons_self]; simp)]
theorem trim_id (l cs : List UInt8) (h : ∀ x ∈ l, cs.contains x = false) : Lib.trimS l cs = l := by
  unfold Lib.trimS Lib.trimLeftS Lib.trimRightS
  rw [dropWhile_id _ l.reverse (fun x hx => h x (by simpa using hx)), List.reverse_reverse, dropWhile_id _ l h]

theorem dropWhile_all (p : UInt8 → Bool) (a l : List UInt8) (h : ∀ x ∈ a, p x = true) : (a ++ l).dropWhile p = l.dropWhile p := by
  induction a with
  | nil => rfl
  | cons x a ih =>
    rw [List.cons_append, List.dropWhile_cons, if_pos (h x List.mem_cons_self)]
    exact ih fun y hy => h y (List.mem_cons_of_mem _ hy)
theorem trim_around (a l b cs : List UInt8) (ha : ∀ x ∈ a, cs.contains x = true) (hb : ∀ x ∈ b, cs.contains x = true) : Lib.trimS (a ++ l ++ b) cs = Lib.trimS l cs := by
  unfold Lib.trimS Lib.trimLeftS Lib.trimRightS
  rw [List.reverse_append, List.reverse_append, dropWhile_all _ b.reverse _ (fun x hx => hb x (by simpa using hx)), List.dropWhile_append]
  split
  · rename_i h
    rw [List.isEmpty_iff] at h
    rw [h]
    have : a.reverse.dropWhile (cs.contains ·) = [] := by
      have := dropWhile_all (cs.contains ·) a.reverse [] (fun x hx => ha x (by simpa using hx))
      simpa using this
    rw [this]
  · rw [List.reverse_append, List.reverse_reverse, dropWhile_all _ a _ ha]

theorem blank_digit {x : UInt8} (h : 48 ≤ x.toNat ∧ x.toNat ≤ 57) : ([32, 9] : List UInt8).contains x = false := by
  have h1 : x ≠ 32 := by rintro rfl; exact absurd h.1 (by decide)
  have h2 : x ≠ 9 := by rintro rfl; exact absurd h.1 (by decide)
  simp [h1, h2]
theorem dig_range : ∀ c : Fin 256, 0 ≤ digitOf 10 (c.val : Int) → 48 ≤ c.val ∧ c.val ≤ 57 := by decide +kernel
theorem read_digits : ∀ (l : List UInt8) (n : Int), (digitsGo 10 l n).isSome = true → ∀ x ∈ l, 48 ≤ x.toNat ∧ x.toNat ≤ 57
  | [], _, _, x, hx => absurd hx (by simp)
  | c :: l, n, h, x, hx => by
    rw [digitsGo] at h
    split at h
    · cases h
    · rename_i h0
      rcases List.mem_cons.1 hx with rfl | hx
      · exact dig_range ⟨x.toNat, x.toNat_lt⟩ (by show 0 ≤ digitOf 10 (x.toNat : Int); omega)
      · exact read_digits l _ h x hx

end Go.Proofs.YtkbeapfcihgjfaaDoor.Ext

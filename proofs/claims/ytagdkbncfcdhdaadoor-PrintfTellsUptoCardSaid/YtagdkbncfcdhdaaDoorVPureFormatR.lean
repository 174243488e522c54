/- Proved: what the document's Format makes of words by a format is what printf.Format makes. Plain Lean: no program's step. -/
import Derived.Test.YtagdkbncfcdhdaaDoorVR2
import Derived.Test.YtagdkbncfcdhdaaDoorVPureOnceR
set_option linter.unusedVariables false
namespace Go.Proofs.YtagdkbncfcdhdaaDoor.PureT
open Go.RowKit Go.Proofs.YtagdkbncfcdhdaaDoor.Ext Go.Proofs.YtagdkbncfcdhdaaDoorW.PrintWords
theorem ext_zero (x : ByteArray) : x.extract 0 x.size = x := by
  apply ba_ext'
  rw [ext_list, List.drop_zero]
theorem mx_st (s : Int) (hs : s = 0 ∨ s = 1) (f : Bool) : mx s (if f = true then 1 else 0) = if f = true then 1 else s := by
  cases f
  · rcases hs with rfl | rfl <;> rfl
  · rcases hs with rfl | rfl <;> rfl
theorem st_01 (s : Int) (hs : s = 0 ∨ s = 1) (f : Bool) : (if f = true then (1 : Int) else s) = 0 ∨ (if f = true then (1 : Int) else s) = 1 := by
  cases f
  · exact hs
  · exact .inr rfl
theorem empty_app' (a : ByteArray) : (⟨#[]⟩ : ByteArray) ++ a = a := by
  apply ba_ext'
  simp
theorem rounds (x : ByteArray) (hs : x.size ≤ 10000000) (cc : Nat) (hcc : ∀ k, 2 * x.size + KB ≤ k → R.cowrieref09_Conversions.f k x = some (cc : Int)) :
    ∀ (N : Nat) (l : List ByteArray) (o : List UInt8) (st : Int) (tk : Nat), l.length ≤ N → (∀ a ∈ l, a.size ≤ MB) → (st = 0 ∨ st = 1) → (tk = 0 ∨ 0 < cc) → tk + l.length ≤ 1000000000 → o.length + (l.length + 1) * x.size + 5000 * (l.length + x.size) + szs l ≤ 900000000000 →
      ∃ (r : St), (r.status = 0 ∨ r.status = 1) ∧ (∀ n, l.length + 1 ≤ n → formatF 200 x n ⟨o, l, st, tk⟩ = some r) ∧ (∀ k, l.length + 1 + 2 * x.size + KB ≤ k → R.cowrieref09_Format.l0 k x l ⟨o.toArray⟩ st = some (⟨r.out.toArray⟩, r.status)) := by
  intro N
  induction N with
  | zero =>
    intro l o st tk hl hm hst htk hb ho
    obtain rfl : l = [] := List.eq_nil_of_length_eq_zero (by omega)
    obtain ⟨t, l', f, c, ok, a1, a2, a3, a4, a5, a6, a7, a8⟩ := does_all x hs x.size x.size 0 [] (Nat.le_refl _) (by omega) hm
    obtain rfl : l' = [] := List.eq_nil_of_length_eq_zero (Nat.le_zero.1 a5)
    rw [List.length_nil] at ho hb
    have h6 := a6 (x.size + 1) (Nat.le_refl _) o st tk (by omega) (by omega)
    rw [ext_zero] at h6
    refine ⟨⟨o ++ t, [], if f = true then 1 else st, ((tk + c : Nat) : Int)⟩, st_01 st hst f, fun n hn => ?_, fun k hk => ?_⟩
    · obtain ⟨n, rfl⟩ : ∃ j, n = j + 1 := ⟨n - 1, by omega⟩
      rw [formatF, h6, Option.bind_some]
      cases ok <;> rfl
    · obtain ⟨k, rfl⟩ : ∃ j, k = j + 1 := ⟨k - 1, by omega⟩
      have h7 := a7 k (by omega) ⟨#[]⟩ 0 (.inl rfl) (by show 0 + _ + _ + _ ≤ _; omega)
      rw [empty_app'] at h7
      have hsz : (⟨o.toArray⟩ : ByteArray).size = o.length := by simp [ByteArray.size]
      have htz : (⟨t.toArray⟩ : ByteArray).size = t.length := by simp [ByteArray.size]
      have happ : (⟨o.toArray⟩ : ByteArray) ++ ⟨t.toArray⟩ = ⟨(o ++ t).toArray⟩ := by
        apply ba_ext'
        simp
      rw [R.cowrieref09_Format.l0, show R.cowrieref09_once.f k x [] = _ from h7, Option.bind_some]
      dsimp only
      rw [if_pos (by omega), mx_st st hst f, happ]
      cases ok <;> rfl
  | succ N ih =>
    intro l o st tk hl hm hst htk hb ho
    by_cases hlN : l.length ≤ N
    · exact ih l o st tk hlN hm hst htk hb ho
    obtain ⟨t, l', f, c, ok, a1, a2, a3, a4, a5, a6, a7, a8⟩ := does_all x hs x.size x.size 0 l (Nat.le_refl _) (by omega) hm
    have hX : x.size ≤ (l.length + 1) * x.size := Nat.le_mul_of_pos_left _ (by omega)
    have h6 := a6 (x.size + 1) (Nat.le_refl _) o st tk (by omega) (by omega)
    rw [ext_zero] at h6
    have hc8 := a8 (2 * x.size + KB) (Nat.le_refl _) 0 (by omega)
    have hcc2 := hcc (2 * x.size + KB) (Nat.le_refl _)
    have hceq : c = cc := by
      have e : some (((0 + c : Nat)) : Int) = some (cc : Int) := hc8.symm.trans hcc2
      have := Option.some.inj e
      omega
    subst hceq
    have hsz : (⟨o.toArray⟩ : ByteArray).size = o.length := by simp [ByteArray.size]
    have htz : (⟨t.toArray⟩ : ByteArray).size = t.length := by simp [ByteArray.size]
    have happ : (⟨o.toArray⟩ : ByteArray) ++ ⟨t.toArray⟩ = ⟨(o ++ t).toArray⟩ := by
      apply ba_ext'
      simp
    have h7 : ∀ k, 2 * x.size + KB ≤ k → R.cowrieref09_once.f k x l = some (⟨t.toArray⟩, l', if f = true then 1 else 0, !ok) := by
      intro k hk
      have h7 := a7 k hk ⟨#[]⟩ 0 (.inl rfl) (by show 0 + _ + _ + _ ≤ _; omega)
      rw [empty_app'] at h7
      exact h7
    have hst2 := st_01 st hst f
    -- DOES IT GO ON?
    by_cases hgo : ok = true ∧ l' ≠ [] ∧ 0 < c
    · obtain ⟨rfl, hne, hc0⟩ := hgo
      have h4 : l'.length + c = l.length := by
        rcases a4 with h | h
        · exact h
        · exact absurd h hne
      have hl0 : ¬ l'.length = 0 := fun e => hne (List.eq_nil_of_length_eq_zero e)
      have hmul : (l'.length + 1) * x.size + x.size ≤ (l.length + 1) * x.size := by
        have := Nat.mul_le_mul_right x.size (show l'.length + 1 + 1 ≤ l.length + 1 by omega)
        rw [Nat.add_mul (l'.length + 1) 1, Nat.one_mul] at this
        exact this
      obtain ⟨r, hr1, hr2, hr3⟩ := ih l' (o ++ t) (if f = true then 1 else st) (tk + c) (by omega) a3 hst2 (.inr hc0) (by omega) (by rw [List.length_append]; omega)
      refine ⟨r, hr1, fun n hn => ?_, fun k hk => ?_⟩
      · obtain ⟨n, rfl⟩ : ∃ j, n = j + 1 := ⟨n - 1, by omega⟩
        rw [formatF, h6, Option.bind_some]
        dsimp only
        rw [if_pos rfl, if_neg hl0, if_pos (by omega)]
        exact hr2 n (by omega)
      · obtain ⟨k, rfl⟩ : ∃ j, k = j + 1 := ⟨k - 1, by omega⟩
        rw [R.cowrieref09_Format.l0, h7 k (by omega), Option.bind_some]
        dsimp only
        rw [if_pos (by omega), if_neg (by decide), if_neg (by omega), hcc k (by omega), Option.bind_some, if_neg (by omega), mx_st st hst f, happ]
        exact hr3 k (by omega)
    · refine ⟨⟨o ++ t, l', if f = true then 1 else st, ((tk + c : Nat) : Int)⟩, hst2, fun n hn => ?_, fun k hk => ?_⟩
      · obtain ⟨n, rfl⟩ : ∃ j, n = j + 1 := ⟨n - 1, by omega⟩
        rw [formatF, h6, Option.bind_some]
        dsimp only
        cases ok with
        | false => rfl
        | true =>
          rw [if_pos rfl]
          by_cases hl0 : l'.length = 0
          · rw [if_pos hl0]
          · have hne : l' ≠ [] := fun e => hl0 (by rw [e]; rfl)
            have hc0 : c = 0 := by
              rcases Nat.eq_zero_or_pos c with h | h
              · exact h
              · exact absurd ⟨rfl, hne, h⟩ hgo
            rw [if_neg hl0, if_neg (by omega)]
      · obtain ⟨k, rfl⟩ : ∃ j, k = j + 1 := ⟨k - 1, by omega⟩
        rw [R.cowrieref09_Format.l0, h7 k (by omega), Option.bind_some]
        dsimp only
        rw [if_pos (by omega), mx_st st hst f, happ]
        cases ok with
        | false => rfl
        | true =>
          rw [if_neg (by decide)]
          by_cases hl0 : l'.length = 0
          · rw [if_pos (by omega)]
          · have hne : l' ≠ [] := fun e => hl0 (by rw [e]; rfl)
            have hc0 : c = 0 := by
              rcases Nat.eq_zero_or_pos c with h | h
              · exact h
              · exact absurd ⟨rfl, hne, h⟩ hgo
            rw [if_neg (by omega), hcc k (by omega), Option.bind_some, if_pos (by omega)]
end Go.Proofs.YtagdkbncfcdhdaaDoor.PureT

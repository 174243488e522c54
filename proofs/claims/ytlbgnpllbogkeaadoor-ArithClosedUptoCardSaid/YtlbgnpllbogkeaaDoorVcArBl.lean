/- Proved: cowrielaw05.blank answers true at a text of blanks. -/
import Derived.Test.YtlbgnpllbogkeaaDoorVcP1
import Derived.Test.YtlbgnpllbogkeaaDoorVcArClTop
import Derived.Test.YtlbgnpllbogkeaaDoorVcArAlive
set_option linter.unusedVariables false
set_option linter.unusedSimpArgs false
namespace Go.Proofs.YtlbgnpllbogkeaaDoor.Ext
open Go.RowKit Go.Proofs.YtlbgnpllbogkeaaDoorW.PrintWords
theorem bt_at3 (x : ByteArray) (i : Nat) (h : i < x.data.toList.length) : bt x ((i : Nat) : Int) = ((x.data.toList[i].toNat : Nat) : Int) := by
  have h2 : i < x.size := by rw [Lib.size_eq]; exact h
  rw [← bt_at x i (by rw [Int.toNat_natCast]; exact h2)]
  simp [ByteArray.getElem_eq_getElem_data]
theorem blank_cases {c : UInt8} (h : blankB c = true) : (c.toNat : Int) = 32 ∨ (c.toNat : Int) = 9 ∨ (c.toNat : Int) = 10 := by
  unfold blankB at h
  rw [Bool.or_eq_true, Bool.or_eq_true, beq_iff_eq, beq_iff_eq, beq_iff_eq] at h
  rcases h with (rfl | rfl) | rfl
  · exact .inl rfl
  · exact .inr (.inl rfl)
  · exact .inr (.inr rfl)
theorem blank_next {j L : Nat} (h : j < L) (hs : L ≤ 9223372036854775807) : wrap64 ((j : Int) + 1) = ((j + 1 : Nat) : Int) := by
  unfold wrap64
  omega
theorem blank_law (s : ByteArray) (hs : s.size ≤ 9223372036854775807) : ∀ k j : Nat, j ≤ s.size → s.size - j < k → ∃ b, P.cowrielaw05_blank.l0 k s (j : Int) = some b ∧ ((∀ c ∈ s.data.toList, blankB c = true) → b = true)
  | 0, j, _, h => absurd h (Nat.not_lt_zero _)
  | k + 1, j, hj, hk => by
    rw [P.cowrielaw05_blank.l0]
    by_cases hlt : j < s.size
    · rw [if_pos (show (j : Int) < (s.size : Int) by omega), if_pos (show (0 : Int) ≤ (j : Int) by omega), blank_next hlt hs]
      have ih := blank_law s hs k (j + 1) (by omega) (by omega)
      have hl : j < s.data.toList.length := by rw [← Lib.size_eq]; exact hlt
      have hb := bt_at3 s j hl
      split
      · exact ih
      · rename_i n1
        split
        · exact ih
        · rename_i n2
          split
          · exact ih
          · rename_i n3
            refine ⟨false, rfl, fun ha => ?_⟩
            rw [hb] at n1 n2 n3
            rcases blank_cases (ha _ (List.getElem_mem hl)) with e | e | e
            · exact absurd e n1
            · exact absurd e n2
            · exact absurd e n3
    · rw [if_neg (show ¬ (j : Int) < (s.size : Int) by omega)]
      exact ⟨true, rfl, fun _ => rfl⟩
theorem blank_calls (s : ByteArray) (hs : s.size ≤ 9223372036854775807) : ∃ b : Bool, ((∀ c ∈ s.data.toList, blankB c = true) → b = true) ∧ ∀ w, Calls Tryd.prog 10 #[.string s] w fun e w' => e = .returned (.bool b) ∧ Below w.heap.size w w' := by
  obtain ⟨b, hb, ha⟩ := blank_law s hs (s.size + 1) 0 (Nat.zero_le _) (by omega)
  refine ⟨b, ha, fun w => (P.cowrielaw05_blank.calls (s.size + 1) s b w hb).mono ?_⟩
  rintro e w' ⟨rfl, hd⟩
  obtain ⟨m, rfl⟩ := hd
  exact ⟨rfl, pw_below_drewN (Below.refl _ w) m⟩
end Go.Proofs.YtlbgnpllbogkeaaDoor.Ext

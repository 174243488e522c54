/- Proved: the page's find, kind, above, Check and ask of a tree are those of the program. Conditions: at most 2 to the 40 nodes, paths of at most 2 to the 40 octets. -/
import Derived.Test.YtdfddiehiiaepaaDoorVlP3
import Derived.Test.YtdfddiehiiaepaaDoorVlTreeWith
set_option linter.unusedVariables false
set_option linter.unusedSimpArgs false
namespace Go.Proofs.YtdfddiehiiaepaaDoor.PureT7
open Go.RowKit Go.Proofs.YtdfddiehiiaepaaDoor.P Go.Proofs.YtdfddiehiiaepaaDoor.Ext Go.Proofs.YtdfddiehiiaepaaDoorW.PrintWords
/-- The last / of a text. -/
theorem last_at {s : ByteArray} {x w : List UInt8} (h : s.data.toList = x ++ 47 :: w) (hw : 47 ∉ w) : Lib.lastIndexByte s 47 = x.length := by
  have hl := Lib.size_eq s
  have hsz : s.size = x.length + (w.length + 1) := by rw [hl, h]; simp
  have hget : ∀ j (hj : j < s.data.toList.length), s.data[j]! = s.data.toList[j] := fun j hj => by
    rw [getElem!_pos s.data j (by simpa using hj)]
    simp
  have hx : x.length < s.data.toList.length := by omega
  have hat : s.data.toList[x.length] = 47 := by simp [h]
  unfold Lib.lastIndexByte
  rcases Lib.lastIdx_spec s 47 s.size with ⟨_, h3⟩ | ⟨i, hi, h2, h3, h4⟩
  · exact absurd (by rw [hget _ hx, hat]; rfl) (h3 x.length (by omega))
  · rw [h2]
    have h5 : x.length ≤ i := by
      rcases Nat.lt_or_ge i x.length with h6 | h6
      · exact absurd (by rw [hget _ hx, hat]; rfl) (h4 x.length h6 (by omega))
      · exact h6
    have h6 : i ≤ x.length := by
      rcases Nat.lt_or_ge x.length i with h7 | h7
      · exfalso
        have hil : i < s.data.toList.length := by omega
        rw [hget i hil] at h3
        have h8 : s.data.toList[i] = 47 := UInt8.toNat_inj.1 (by exact_mod_cast h3)
        apply hw
        have h9 : s.data.toList[i]? = some 47 := by rw [List.getElem?_eq_getElem hil, h8]
        rw [h, List.getElem?_append_right (by omega), show i - x.length = (i - x.length - 1) + 1 by omega, List.getElem?_cons_succ] at h9
        exact List.mem_of_getElem? h9
      · exact h7
    omega
theorem join_cons (a b : List UInt8) (l : List (List UInt8)) : Go.Lib.join (a :: b :: l) [47] = a ++ 47 :: Go.Lib.join (b :: l) [47] := by
  simp [Go.Lib.join, List.intercalate, List.intersperse]
theorem join_snoc : ∀ (l : List (List UInt8)) (w : List UInt8), l ≠ [] → Go.Lib.join (l ++ [w]) [47] = Go.Lib.join l [47] ++ 47 :: w
  | [], w, h => absurd rfl h
  | [a], w, _ => by simp [Go.Lib.join]
  | a :: b :: l, w, _ => by
    have ih := join_snoc (b :: l) w (by simp)
    rw [List.cons_append, List.cons_append, join_cons, join_cons, ← List.cons_append, ih]
    simp
theorem dir_path (l : List (List UInt8)) (hg : ∀ w ∈ l, Path.Good w) : dirB (mkB (Path.pathL l)) = mkB (Path.pathL l.dropLast) := by
  apply toB
  rcases List.eq_nil_or_concat l with rfl | ⟨l', w, rfl⟩
  · decide +kernel
  · rw [List.concat_eq_append] at *
    have hw : 47 ∉ w := (hg w (by simp)).2.2.2
    rw [List.dropLast_concat, mkB_data]
    by_cases h0 : l' = []
    · subst h0
      have h1 : (mkB (Path.pathL ([] ++ [w]))).data.toList = [] ++ 47 :: w := by rw [mkB_data]; simp [Path.pathL, Go.Lib.join]
      have hlast := last_at h1 hw
      unfold dirB
      rw [hlast, if_pos (by rfl), ← Lib.toList_data, Lib.extract_toList, h1]
      rfl
    · have h1 : (mkB (Path.pathL (l' ++ [w]))).data.toList = Path.pathL l' ++ 47 :: w := by
        rw [mkB_data]
        unfold Path.pathL
        rw [join_snoc l' w h0]
        rfl
      have hlast := last_at h1 hw
      unfold dirB
      rw [hlast, if_neg (by unfold Path.pathL; rw [List.length_cons]; omega), ← Lib.toList_data, Lib.extract_toList, h1, Int.toNat_natCast, Nat.sub_zero, List.drop_zero, List.take_left]
end Go.Proofs.YtdfddiehiiaepaaDoor.PureT7

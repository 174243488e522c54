/- Proved: the page's find, kind, above, Check and ask of a tree are those of the program. Conditions: at most 2 to the 40 nodes, paths of at most 2 to the 40 octets. -/
import Derived.Test.YtdfddiehiiaepaaGreatDoorVsP2
import Derived.Test.YtdfddiehiiaepaaGreatDoorVsTreeWith
set_option linter.unusedVariables false
set_option linter.unusedSimpArgs false
namespace Go.Proofs.YtdfddiehiiaepaaGreatDoor.PureT7
open Go.RowKit Go.Proofs.YtdfddiehiiaepaaGreatDoor.P Go.Proofs.YtdfddiehiiaepaaGreatDoor.Ext Go.Proofs.YtdfddiehiiaepaaGreatDoorW.PrintWords
theorem find_loop (t : List S73) (hl : t.length ≤ 1099511627776) (p : ByteArray) : ∀ (d i K : Nat), i + d = t.length → d + 1 ≤ K →
    ∃ r : Int, cowrieref07_find.l0 K t p i = some r ∧ ((r = -1 ∧ ∀ n ∈ t.drop i, pk n ≠ p.data.toList) ∨ ∃ j : Nat, r = j ∧ ∃ hj : j < t.length, pk t[j] = p.data.toList)
  | 0, i, K, hd, hK => by
    obtain ⟨K, rfl⟩ : ∃ k, K = k + 1 := ⟨K - 1, by omega⟩
    unfold cowrieref07_find.l0
    rw [if_neg (by omega)]
    refine ⟨-1, rfl, .inl ⟨rfl, ?_⟩⟩
    rw [List.drop_of_length_le (by omega)]
    simp
  | d + 1, i, K, hd, hK => by
    obtain ⟨K, rfl⟩ : ∃ k, K = k + 1 := ⟨K - 1, by omega⟩
    have hil : i < t.length := by omega
    unfold cowrieref07_find.l0
    rw [if_pos (by omega), if_pos (by omega), rd_get hil, w1 i (by omega)]
    by_cases h : (t[i]).f0.toList = p.toList
    · rw [if_pos h]
      rw [Lib.toList_data, Lib.toList_data] at h
      exact ⟨i, rfl, .inr ⟨i, rfl, hil, h⟩⟩
    · rw [if_neg h]
      rw [Lib.toList_data, Lib.toList_data] at h
      obtain ⟨r, h1, h2⟩ := find_loop t hl p d (i + 1) K (by omega) (by omega)
      refine ⟨r, h1, ?_⟩
      rcases h2 with ⟨h2, h3⟩ | h2
      · refine .inl ⟨h2, fun n hn => ?_⟩
        rw [List.drop_eq_getElem_cons hil] at hn
        rcases List.mem_cons.1 hn with rfl | hn
        · exact h
        · exact h3 n hn
      · exact .inr h2
theorem ref_kind (t : List S73) (hl : t.length ≤ 1099511627776) (p : ByteArray) (K : Nat) (hK : t.length + 2 ≤ K) : ∃ r : Int, cowrieref07_kind.f K t p = some r ∧ (Sorted t → r = kindOf t p) := by
  obtain ⟨K, rfl⟩ : ∃ k, K = k + 1 := ⟨K - 1, by omega⟩
  obtain ⟨r, h1, h2⟩ := find_loop t hl p t.length 0 (K + 1) (by omega) (by omega)
  unfold cowrieref07_kind.f cowrieref07_find.f
  rw [show (0 : Int) = ((0 : Nat) : Int) from rfl, h1, Option.bind_some]
  by_cases h47 : p.toList = [47]
  · rw [if_pos h47]
    refine ⟨2, by simp [cowrieref07_kind.j0], fun _ => (kind_top t p ?_).symm⟩
    rwa [Lib.toList_data] at h47
  · rw [if_neg h47]
    rw [Lib.toList_data] at h47
    rcases h2 with ⟨rfl, h3⟩ | ⟨j, rfl, hj, h3⟩
    · rw [if_neg (by decide)]
      refine ⟨0, by simp [cowrieref07_kind.j0], fun hs => (kind_miss hs h47 ?_).symm⟩
      rwa [List.drop_zero] at h3
    · rw [if_pos (by omega), if_pos (by omega), if_pos (by omega), rd_get hj]
      refine ⟨if (t[j]).f1 = true then 2 else 1, ?_, fun hs => (kind_hit hs h47 (List.getElem_mem hj) h3).symm⟩
      simp only [cowrieref07_kind.j0]
      split
      · rfl
      · rw [if_pos (by omega)]
theorem ref_above (p : ByteArray) (hp : p.size ≤ 1099511627776) (K : Nat) (hK : 5 * p.size + 6 ≤ K) : cowrieref07_above.f K p = some (mkB (Path.pathL (Path.partsL p.data.toList).dropLast)) := by
  have hsum := Path.parts_sum p.data.toList
  have hsd := Path.sum_dropLast (Path.partsL p.data.toList)
  rw [← Lib.size_eq] at hsum
  unfold cowrieref07_above.f
  rw [parts_some p hp K (by omega), Option.bind_some, List.length_map]
  generalize Path.partsL p.data.toList = l at *
  by_cases h0 : l.length = 0
  · obtain rfl := List.length_eq_zero_iff.1 h0
    rw [if_pos (by simp)]
    rfl
  · obtain ⟨m, hm⟩ : ∃ m, l.length = m + 1 := ⟨l.length - 1, by omega⟩
    rw [if_neg (by omega), hm, wm1 m (by omega), if_pos (by omega), if_pos (by omega), Int.toNat_natCast, ← List.map_take, show l.take m = l.dropLast by rw [List.dropLast_eq_take, hm]; rfl,
      joined_some l.dropLast (by omega) K (by omega)]
    rfl
/-- The last / of a text. -/
theorem last_at {s : ByteArray} {x w : List UInt8} (h : s.data.toList = x ++ 47 :: w) (hw : 47 ∉ w) : Lib.lastIndexByte s 47 = x.length := by
  have hl := Lib.size_eq s
  have hsz : s.size = x.length + (w.length + 1) := by rw [hl, h]; simp
  have hget : ∀ j (hj : j < s.data.toList.length), s.data[j]! = s.data.toList[j] := fun j hj => by
    rw [getElem!_pos s.data j (by simpa using hj)]
    simp
  have hx : x.length < s.data.toList.length := by omega
  have hat : s.data.toList[x.length] = 47 := by simp [h]
  unfold Lib.lastIndexByte
  rcases Lib.lastIdx_spec s 47 s.size with ⟨_, h3⟩ | ⟨i, hi, h2, h3, h4⟩
  · exact absurd (by rw [hget _ hx, hat]; rfl) (h3 x.length (by omega))
  · rw [h2]
    have h5 : x.length ≤ i := by
      rcases Nat.lt_or_ge i x.length with h6 | h6
      · exact absurd (by rw [hget _ hx, hat]; rfl) (h4 x.length h6 (by omega))
      · exact h6
    have h6 : i ≤ x.length := by
      rcases Nat.lt_or_ge x.length i with h7 | h7
      · exfalso
        have hil : i < s.data.toList.length := by omega
        rw [hget i hil] at h3
        have h8 : s.data.toList[i] = 47 := UInt8.toNat_inj.1 (by exact_mod_cast h3)
        apply hw
        have h9 : s.data.toList[i]? = some 47 := by rw [List.getElem?_eq_getElem hil, h8]
        rw [h, List.getElem?_append_right (by omega), show i - x.length = (i - x.length - 1) + 1 by omega, List.getElem?_cons_succ] at h9
        exact List.mem_of_getElem? h9
      · exact h7
    omega
theorem join_cons (a b : List UInt8) (l : List (List UInt8)) : Go.Lib.join (a :: b :: l) [47] = a ++ 47 :: Go.Lib.join (b :: l) [47] := by
  simp [Go.Lib.join, List.intercalate, List.intersperse]
theorem join_snoc : ∀ (l : List (List UInt8)) (w : List UInt8), l ≠ [] → Go.Lib.join (l ++ [w]) [47] = Go.Lib.join l [47] ++ 47 :: w
  | [], w, h => absurd rfl h
  | [a], w, _ => by simp [Go.Lib.join]
  | a :: b :: l, w, _ => by
    have ih := join_snoc (b :: l) w (by simp)
    rw [List.cons_append, List.cons_append, join_cons, join_cons, ← List.cons_append, ih]
    simp
theorem dir_path (l : List (List UInt8)) (hg : ∀ w ∈ l, Path.Good w) : dirB (mkB (Path.pathL l)) = mkB (Path.pathL l.dropLast) := by
  apply toB
  rcases List.eq_nil_or_concat l with rfl | ⟨l', w, rfl⟩
  · decide +kernel
  · rw [List.concat_eq_append] at *
    have hw : 47 ∉ w := (hg w (by simp)).2.2.2
    rw [List.dropLast_concat, mkB_data]
    by_cases h0 : l' = []
    · subst h0
      have h1 : (mkB (Path.pathL ([] ++ [w]))).data.toList = [] ++ 47 :: w := by rw [mkB_data]; simp [Path.pathL, Go.Lib.join]
      have hlast := last_at h1 hw
      unfold dirB
      rw [hlast, if_pos (by rfl), ← Lib.toList_data, Lib.extract_toList, h1]
      rfl
    · have h1 : (mkB (Path.pathL (l' ++ [w]))).data.toList = Path.pathL l' ++ 47 :: w := by
        rw [mkB_data]
        unfold Path.pathL
        rw [join_snoc l' w h0]
        rfl
      have hlast := last_at h1 hw
      unfold dirB
      rw [hlast, if_neg (by unfold Path.pathL; rw [List.length_cons]; omega), ← Lib.toList_data, Lib.extract_toList, h1, Int.toNat_natCast, Nat.sub_zero, List.drop_zero, List.take_left]
/-- The page's directory of a path that is told is the program's. -/
theorem above_told {p : ByteArray} (hp : p.size ≤ 1099511627776) (h : pathB p = p) (K : Nat) (hK : 5 * p.size + 6 ≤ K) : cowrieref07_above.f K p = some (dirB p) := by
  rw [ref_above p hp K hK, ← dir_path _ (good p)]
  show some (dirB (pathB p)) = _
  rw [h]
end Go.Proofs.YtdfddiehiiaepaaGreatDoor.PureT7

/- Proved: the page's Path is that of the program. Condition: texts of at most 2 to the 40 octets. -/
import Derived.Test.YtdfddiehiiaepaaGreatDoorVsP2
import Derived.Test.YtdfddiehiiaepaaGreatDoorVsPureTreePaths
set_option linter.unusedVariables false
set_option linter.unusedSimpArgs false
namespace Go.Proofs.YtdfddiehiiaepaaGreatDoor.PureT7
open Go.RowKit Go.Proofs.YtdfddiehiiaepaaGreatDoor.P Go.Proofs.YtdfddiehiiaepaaGreatDoor.Ext Go.Proofs.YtdfddiehiiaepaaGreatDoorW.PrintWords
theorem w1 (i : Nat) (h : i ≤ 4398046511104) : wrap64 (((i : Nat) : Int) + 1) = ((i + 1 : Nat) : Int) := by unfold wrap64; omega
theorem wm1 (i : Nat) (h : i ≤ 4398046511104) : wrap64 (((i + 1 : Nat) : Int) - 1) = ((i : Nat) : Int) := by unfold wrap64; omega
theorem bt_list (x : ByteArray) (i : Nat) (h : i < x.data.toList.length) : bt x ((i : Nat) : Int) = ((x.data.toList[i].toNat : Nat) : Int) := by
  unfold bt
  rw [Int.toNat_natCast, dif_pos (by rw [Lib.size_eq]; exact h)]
  rfl
theorem bt_is (x : ByteArray) (i : Nat) (h : i < x.data.toList.length) (c : UInt8) : bt x ((i : Nat) : Int) = (c.toNat : Int) ↔ x.data.toList[i] = c := by
  rw [bt_list x i h]
  constructor
  · intro e
    exact UInt8.toNat_inj.1 (by exact_mod_cast e)
  · rintro e
    rw [e]
theorem j2_all (K : Nat) (s : ByteArray) (acc : List ByteArray) (f i : Int) (w : ByteArray) (ha : acc.length ≤ 4398046511104) (b : Bool) (hb : b = true ↔ (w.toList = [] ∨ w.toList = [46])) :
    cowrieref07_Parts.j2 (K + 1) s acc f i w b = cowrieref07_Parts.l0 K s (stepB acc w) f (wrap64 (i + 1)) := by
  unfold cowrieref07_Parts.j2 stepB
  by_cases h : b = true
  · rw [if_pos h, if_pos (by simpa using hb.1 h)]
  · have h' : ¬ (w.toList = [] ∨ w.toList = [46]) := fun e => h (hb.2 e)
    rw [if_neg h, if_neg (c := (w.toList == []) = true ∨ _) (by simpa using h')]
    by_cases h2 : w.toList = [46, 46]
    · rw [if_pos h2, if_pos (c := (w.toList == [46, 46]) = true) (by simpa using h2)]
      by_cases h3 : acc.length = 0
      · obtain rfl := List.length_eq_zero_iff.1 h3
        rw [if_neg (by simp)]
        rfl
      · obtain ⟨m, hm⟩ : ∃ m, acc.length = m + 1 := ⟨acc.length - 1, by omega⟩
        rw [hm, if_pos (by omega), wm1 m (by omega), if_pos (by omega), if_pos (by omega), Int.toNat_natCast, List.dropLast_eq_take, hm]
        rfl
    · rw [if_neg h2, if_pos (by omega), if_neg (c := (w.toList == [46, 46]) = true) (by simpa using h2)]
theorem j1_false (K : Nat) (s : ByteArray) (acc : List ByteArray) (f i : Nat) (hf : f ≤ i) (hi : i ≤ s.size) (hs : s.size ≤ 1099511627776) (ha : acc.length ≤ 4398046511104) :
    cowrieref07_Parts.j1 (K + 1 + 1) s acc f i false = cowrieref07_Parts.l0 K s (stepB acc (mkB ((s.data.toList.drop f).take (i - f)))) ((i + 1 : Nat) : Int) ((i + 1 : Nat) : Int) := by
  have he : s.extract f i = mkB ((s.data.toList.drop f).take (i - f)) := toB (by rw [← Lib.toList_data, Lib.extract_toList]; rfl)
  unfold cowrieref07_Parts.j1
  rw [if_neg (by simp), if_pos (by omega), if_pos (by omega), if_pos (by omega), Int.toNat_natCast, Int.toNat_natCast, he, w1 i (by omega)]
  by_cases h : (mkB ((s.data.toList.drop f).take (i - f))).toList = []
  · rw [if_pos h, j2_all K s acc _ _ _ ha true (by simp [h]), w1 i (by omega)]
  · rw [if_neg h, j2_all K s acc _ _ _ ha _ (by simp [h]), w1 i (by omega)]
theorem stepB_len (acc : List ByteArray) (x : ByteArray) : (stepB acc x).length ≤ acc.length + 1 := by
  unfold stepB
  split
  · omega
  · split
    · simp
      omega
    · simp
theorem parts_loop (s : ByteArray) (hs : s.size ≤ 1099511627776) : ∀ (d i f : Nat) (acc : List ByteArray) (K : Nat), i + d = s.size → f ≤ i → acc.length ≤ i → 47 ∉ (s.data.toList.drop f).take (i - f) → 3 * d + 4 ≤ K →
    cowrieref07_Parts.l0 K s acc f i = some (((Path.splitL 47 (s.data.toList.drop f)).map mkB).foldl stepB acc)
  | 0, i, f, acc, K, hd, hf, ha, hn, hK => by
    obtain ⟨K, rfl⟩ : ∃ k, K = k + 1 + 1 + 1 + 1 := ⟨K - 4, by omega⟩
    have hl := Lib.size_eq s
    have htk : (s.data.toList.drop f).take (i - f) = s.data.toList.drop f := List.take_of_length_le (by rw [List.length_drop]; omega)
    unfold cowrieref07_Parts.l0
    rw [if_pos (by omega), if_neg (by omega), j1_false (K + 1) s acc f i hf (by omega) hs (by omega), htk]
    unfold cowrieref07_Parts.l0
    rw [if_neg (by omega), Path.splitL_one 47 _ (by rw [← htk]; exact hn)]
    rfl
  | d + 1, i, f, acc, K, hd, hf, ha, hn, hK => by
    obtain ⟨K, rfl⟩ : ∃ k, K = k + 1 + 1 + 1 := ⟨K - 3, by omega⟩
    have hl := Lib.size_eq s
    have hil : i < s.data.toList.length := by omega
    have hcut : s.data.toList.drop f = (s.data.toList.drop f).take (i - f) ++ s.data.toList.drop i := by
      have := (List.take_append_drop (i - f) (s.data.toList.drop f)).symm
      rw [List.drop_drop, show f + (i - f) = i by omega] at this
      exact this
    have hdi : s.data.toList.drop i = s.data.toList[i] :: s.data.toList.drop (i + 1) := List.drop_eq_getElem_cons hil
    unfold cowrieref07_Parts.l0
    rw [if_pos (by omega), if_pos (by omega), if_pos (by omega)]
    by_cases hb : s.data.toList[i] = 47
    · rw [show (bt s (i : Int) != 47) = false by rw [(bt_is s i hil 47).2 hb]; rfl, j1_false K s acc f i hf (by omega) hs (by omega),
        parts_loop s hs d (i + 1) (i + 1) _ K (by omega) (Nat.le_refl _) (by have := stepB_len acc (mkB ((s.data.toList.drop f).take (i - f))); omega) (by simp) (by omega)]
      congr 1
      conv => rhs; rw [hcut, hdi, hb, Path.splitL_append, Path.splitL_one 47 _ hn]
      rfl
    · have hne : (bt s (i : Int) != 47) = true := by
        rw [bne_iff_ne]
        exact fun e => hb ((bt_is s i hil 47).1 e)
      rw [hne]
      unfold cowrieref07_Parts.j1
      rw [if_pos rfl, w1 i (by omega)]
      refine parts_loop s hs d (i + 1) f acc _ (by omega) (by omega) (by omega) ?_ (by omega)
      rw [show i + 1 - f = (i - f) + 1 by omega, List.take_add_one]
      intro hm
      rcases List.mem_append.1 hm with hm | hm
      · exact hn hm
      · rw [List.getElem?_drop, show f + (i - f) = i by omega, List.getElem?_eq_getElem hil] at hm
        simp at hm
        exact hb hm.symm
theorem parts_some (s : ByteArray) (hs : s.size ≤ 1099511627776) (K : Nat) (hK : 3 * s.size + 4 ≤ K) : cowrieref07_Parts.f K s = some ((Path.partsL s.data.toList).map mkB) := by
  unfold cowrieref07_Parts.f
  have := parts_loop s hs s.size 0 0 [] K (by omega) (Nat.le_refl _) (Nat.le_refl _) (by simp) hK
  rw [List.drop_zero] at this
  rw [← partsB_L]
  exact this
/-- The parts, each behind a /. -/
def slashes (l : List (List UInt8)) : List UInt8 := (l.map fun w => (47 : UInt8) :: w).flatten
theorem slashes_join : ∀ (w : List UInt8) (l : List (List UInt8)), slashes (w :: l) = 47 :: Go.Lib.join (w :: l) [47]
  | w, [] => by simp [slashes, Go.Lib.join]
  | w, x :: l => by
    have ih := slashes_join x l
    unfold slashes at ih ⊢
    rw [List.map_cons, List.flatten_cons, ih]
    simp [Go.Lib.join]
theorem slashes_path (l : List (List UInt8)) : (if slashes l = [] then [47] else slashes l) = Path.pathL l := by
  cases l with
  | nil => rfl
  | cons w l =>
    rw [slashes_join, if_neg (by simp)]
    rfl
theorem slashes_len (l : List (List UInt8)) : (slashes l).length = (l.map List.length).sum + l.length := by
  induction l with
  | nil => rfl
  | cons w l ih =>
    unfold slashes at ih ⊢
    simp only [List.map_cons, List.flatten_cons, List.length_append, List.length_cons, List.sum_cons, ih]
    omega
theorem joined_loop (l : List (List UInt8)) (hl : l.length ≤ 1099511627777) : ∀ (d i : Nat) (acc : ByteArray) (K : Nat), i + d = l.length → acc.size + (slashes (l.drop i)).length ≤ 4398046511104 → d + 1 ≤ K →
    cowrieref07_Joined.l0 K (l.map mkB) acc i = some (if (acc.data.toList ++ slashes (l.drop i)) = [] then mkB [47] else mkB (acc.data.toList ++ slashes (l.drop i)))
  | 0, i, acc, K, hd, ha, hK => by
    obtain ⟨K, rfl⟩ : ∃ k, K = k + 1 := ⟨K - 1, by omega⟩
    unfold cowrieref07_Joined.l0
    rw [if_neg (by rw [List.length_map]; omega), List.drop_of_length_le (by omega)]
    rw [show slashes [] = [] from rfl, List.append_nil, Lib.toList_data, mkB_of]
    split <;> rfl
  | d + 1, i, acc, K, hd, ha, hK => by
    obtain ⟨K, rfl⟩ : ∃ k, K = k + 1 := ⟨K - 1, by omega⟩
    have hil : i < l.length := by omega
    have hdi : l.drop i = l[i] :: l.drop (i + 1) := List.drop_eq_getElem_cons hil
    have hrd : rdOf ByteArray.empty (l.map mkB) (i : Int) = mkB l[i] := by
      unfold rdOf
      rw [Int.toNat_natCast, List.getD_eq_getElem?_getD, List.getElem?_map, List.getElem?_eq_getElem hil]
      rfl
    have hsl : slashes (l.drop i) = 47 :: (l[i] ++ slashes (l.drop (i + 1))) := by
      rw [hdi]
      unfold slashes
      rw [List.map_cons, List.flatten_cons, List.cons_append]
    have hsz : (acc ++ (⟨#[47]⟩ : ByteArray)).size = acc.size + 1 := by rw [ByteArray.size_append]; rfl
    have hsz2 : ((acc ++ (⟨#[47]⟩ : ByteArray)) ++ mkB l[i]).size = acc.size + 1 + l[i].length := by rw [ByteArray.size_append, hsz, mkB_size]
    rw [hsl, List.length_cons, List.length_append] at ha
    unfold cowrieref07_Joined.l0
    rw [if_pos (by rw [List.length_map]; omega), if_pos (by omega), if_pos (by omega), hrd, if_pos (by rw [hsz, mkB_size]; omega), w1 i (by omega),
      joined_loop l hl d (i + 1) _ K (by omega) (by rw [hsz2]; omega) (by omega), data_append, data_append, hsl]
    rw [show acc.data.toList ++ (⟨#[47]⟩ : ByteArray).data.toList ++ (mkB l[i]).data.toList ++ slashes (l.drop (i + 1)) = acc.data.toList ++ 47 :: (l[i] ++ slashes (l.drop (i + 1))) by
      rw [mkB_data]; simp]
theorem joined_some (l : List (List UInt8)) (hl : (l.map List.length).sum + l.length ≤ 1099511627777) (K : Nat) (hK : l.length + 1 ≤ K) : cowrieref07_Joined.f K (l.map mkB) = some (mkB (Path.pathL l)) := by
  have := joined_loop l (by omega) l.length 0 ⟨#[]⟩ K (by omega) (by rw [List.drop_zero, slashes_len]; show 0 + _ ≤ _; omega) hK
  unfold cowrieref07_Joined.f
  rw [List.drop_zero] at this
  refine this.trans ?_
  rw [← slashes_path]
  show some (if slashes l = [] then mkB [47] else mkB (slashes l)) = _
  split <;> rfl
theorem ref_loop (s : ByteArray) (hs : s.size ≤ 1099511627776) : ∀ (d i K : Nat), i + d = s.size → 0 ∉ s.data.toList.take i → 4 * s.size + 6 + d ≤ K →
    cowrieref07_Path.l0 K s i = some (if badP s = true then (⟨#[]⟩, 31) else (pathB s, 0))
  | 0, i, K, hd, hn, hK => by
    obtain ⟨K, rfl⟩ : ∃ k, K = k + 1 := ⟨K - 1, by omega⟩
    have hl := Lib.size_eq s
    rw [List.take_of_length_le (by omega)] at hn
    unfold cowrieref07_Path.l0
    rw [if_neg (by omega)]
    by_cases he : s.data.toList = []
    · rw [if_pos (by rw [Lib.toList_data]; exact he), if_pos ((badP_eq s).2 (.inl he))]
    · have hsum := Path.parts_sum s.data.toList
      rw [if_neg (by rw [Lib.toList_data]; exact he), if_neg (fun h => by rcases (badP_eq s).1 h with h | h; exact he h; exact hn h),
        parts_some s hs K (by omega), Option.bind_some, joined_some _ (by omega) K (by omega)]
      rfl
  | d + 1, i, K, hd, hn, hK => by
    obtain ⟨K, rfl⟩ : ∃ k, K = k + 1 := ⟨K - 1, by omega⟩
    have hl := Lib.size_eq s
    have hil : i < s.data.toList.length := by omega
    unfold cowrieref07_Path.l0
    rw [if_pos (by omega), if_pos (by omega)]
    by_cases hb : s.data.toList[i] = 0
    · rw [if_pos (c := bt s (i : Int) = 0) ((bt_is s i hil 0).2 hb), if_pos ((badP_eq s).2 (.inr (hb ▸ List.getElem_mem hil)))]
    · rw [if_neg (c := bt s (i : Int) = 0) (fun e => hb ((bt_is s i hil 0).1 e)), w1 i (by omega)]
      refine ref_loop s hs d (i + 1) K (by omega) ?_ (by omega)
      rw [List.take_add_one, List.getElem?_eq_getElem hil]
      intro hm
      rcases List.mem_append.1 hm with hm | hm
      · exact hn hm
      · simp at hm
        exact hb hm.symm
theorem ref_path (s : ByteArray) (hs : s.size ≤ 1099511627776) (K : Nat) (hK : 5 * s.size + 6 ≤ K) : cowrieref07_Path.f K s = some (if badP s = true then (⟨#[]⟩, 31) else (pathB s, 0)) :=
  ref_loop s hs s.size 0 K (by omega) (by simp) (by omega)
end Go.Proofs.YtdfddiehiiaepaaGreatDoor.PureT7

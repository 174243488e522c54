/- Proved: tree.Path, tree.node, tree.size in plain words. Conditions: texts shorter than 2 to the 40. -/
import Derived.Test.YtdfddiehiiaepaaGreatDoorVsT1
set_option linter.unusedVariables false
set_option linter.unusedSimpArgs false
namespace Go.Proofs.YtdfddiehiiaepaaGreatDoor.Ext
open Go.RowKit Go.Shelf Go.Proofs.YtdfddiehiiaepaaGreatDoorW.PrintWords Go.Proofs.YtdfddiehiiaepaaGreatDoor.P
theorem below_next7 {n : Nat} {w w1 w2 : World} (h : Below n w w1) (hn : n ≤ w1.heap.size) (h2 : Below w1.heap.size w1 w2) : Below n w w2 := h.trans (h2.mono hn)
/-- Lists of octets as texts. -/
def mkB (l : List UInt8) : ByteArray := ⟨l.toArray⟩
theorem mkB_data (l : List UInt8) : (mkB l).data.toList = l := rfl
theorem mkB_toList (l : List UInt8) : (mkB l).toList = l := by rw [Lib.toList_data]; rfl
theorem mkB_of (s : ByteArray) : mkB s.data.toList = s := by cases s; rfl
theorem mkB_size (l : List UInt8) : (mkB l).size = l.length := by rw [Lib.size_eq]; rfl
theorem step_L (acc : List (List UInt8)) (x : List UInt8) : stepB (acc.map mkB) (mkB x) = (Path.stepP acc x).map mkB := by
  unfold stepB Path.stepP
  rw [mkB_toList]
  by_cases h1 : x = [] ∨ x = [46]
  · rw [if_pos h1, if_pos (by rcases h1 with h | h <;> simp [h])]
  · rw [if_neg h1, if_neg (by intro h; apply h1; rcases h with h | h; exact .inl (eq_of_beq h); exact .inr (eq_of_beq h))]
    by_cases h2 : x = [46, 46]
    · rw [if_pos h2, if_pos (by simp [h2]), List.map_dropLast]
    · rw [if_neg h2, if_neg (by intro h; exact h2 (eq_of_beq h)), List.map_append]
      rfl
theorem fold_L : ∀ (l acc : List (List UInt8)), (l.map mkB).foldl stepB (acc.map mkB) = (l.foldl Path.stepP acc).map mkB
  | [], acc => rfl
  | x :: l, acc => by rw [List.map_cons, List.foldl_cons, step_L, fold_L l, List.foldl_cons]
theorem partsB_L (s : ByteArray) : partsB s = (Path.partsL s.data.toList).map mkB := fold_L (Path.splitL 47 s.data.toList) []
theorem map_mkB (l : List (List UInt8)) : (l.map mkB).map (·.data.toList) = l := by
  rw [List.map_map]
  exact List.map_id l
/-- A path as it is told. -/
def pathB (s : ByteArray) : ByteArray := mkB (Path.pathL (Path.partsL s.data.toList))
/-- A text that is no path. -/
def badP (s : ByteArray) : Bool := s.data.toList.isEmpty || decide (0 ≤ Lib.indexByte s.data.toList 0)
def tree_Path.f (s : ByteArray) : Option (ByteArray × Int) := if s.size ≤ 1099511627776 then some (if badP s = true then (⟨#[]⟩, 31) else (pathB s, 0)) else none
theorem path_some (s : ByteArray) (hs : s.size ≤ 1099511627776) : T.tree_Path.f 1 s = some (if badP s = true then (⟨#[]⟩, 31) else (pathB s, 0)) := by
  have hj : T.tree_Path.j0 1 s false = some (pathB s, 0) := by
    have hl := Path.parts_sum s.data.toList
    have hn := Path.join_len (Path.partsL s.data.toList)
    have hs2 : s.data.toList.length = s.size := (Lib.size_eq s).symm
    simp only [T.tree_Path.j0]
    rw [if_neg (by simp)]
    unfold tree_parts.f strings_Join.f
    rw [if_pos hs, Option.bind_some, partsB_L, map_mkB, if_pos ⟨by rw [List.length_map]; omega, by show (Lib.join _ [47]).length ≤ _; omega⟩, Option.bind_some]
    rw [if_pos (by show 1 + (mkB _).size ≤ _; rw [mkB_size]; show 1 + (Lib.join _ [47]).length ≤ _; omega)]
    congr 1
  unfold T.tree_Path.f badP
  rw [Lib.toList_data]
  by_cases h0 : s.data.toList = []
  · rw [if_pos h0, h0]
    simp [T.tree_Path.j0]
  · have h1 : s.data.toList.isEmpty = false := by simpa using h0
    rw [if_neg h0, h1, Bool.false_or]
    unfold strings_IndexByte.f
    rw [Option.bind_some, show (0 : Int).toNat.toUInt8 = 0 from rfl]
    by_cases h2 : 0 ≤ Lib.indexByte s.data.toList 0
    · rw [if_pos (by simp [h2])]
      simp [T.tree_Path.j0, h2]
    · rw [if_neg (by simp [h2]), decide_eq_false (by simpa using h2)]
      exact hj
theorem tree_Path.calls (s : ByteArray) (r1 : ByteArray) (r2 : Int) (w : World) (h : tree_Path.f s = some (r1, r2)) :
    Calls Tryz.prog 17 #[.string s] w fun e w' => e = .returned (.tuple #[.string r1, .int .i64 r2]) ∧ Below w.heap.size w w' := by
  unfold tree_Path.f at h
  split at h
  case isFalse => cases h
  rename_i hs
  exact T.tree_Path.calls 1 s r1 r2 w ((path_some s hs).trans h)
/-- A text's directory, if it is a path. -/
def dirB (p : ByteArray) : ByteArray := if Lib.lastIndexByte p 47 = 0 then p.extract 0 1 else p.extract 0 (Lib.lastIndexByte p 47).toNat
def nameB (p : ByteArray) : ByteArray := p.extract ((Lib.lastIndexByte p 47).toNat + 1) p.size
theorem last_bound (p : ByteArray) (h : p.data.toList.head? = some 47) : 0 ≤ Lib.lastIndexByte p 47 ∧ Lib.lastIndexByte p 47 < p.size := by
  have h0 : 0 < p.size := by
    rw [Lib.size_eq]
    cases e : p.data.toList with
    | nil => rw [e] at h; cases h
    | cons b l => simp
  rcases Lib.lastIdx_spec p 47 p.size with ⟨_, h2⟩ | ⟨i, hi, h1, _⟩
  · exfalso
    apply h2 0 h0
    have : p.data[0]! = 47 := by
      have h3 : p.data.toList[0]? = some 47 := by rw [← List.head?_eq_getElem?]; exact h
      simp at h3
      rw [getElem!_def, h3]
    rw [this]
    rfl
  · unfold Lib.lastIndexByte
    rw [h1]
    omega
theorem above_some (p : ByteArray) (h : p.data.toList.head? = some 47) (hs : p.size ≤ 1099511627776) : tree_above.f p = some (dirB p, nameB p) := by
  obtain ⟨h1, h2⟩ := last_bound p h
  unfold tree_above.f
  rw [if_pos ⟨hs, h1, h2⟩]
  rfl
theorem path_head (s : ByteArray) : (pathB s).data.toList.head? = some 47 := rfl
/-- A node that may be in a tree. -/
def nodeOk (t : List S73) (n : S73) : Bool :=
  !badP n.f0 && (pathB n.f0).toList == n.f0.toList && !(n.f0.toList == [47]) && !(n.f1 && !n.f2.toList.isEmpty) && (kindOf t (dirB n.f0) == 2)
theorem node_some (t : List S73) (n : S73) (ht : t.length ≤ 1099511627776) (hs : n.f0.size ≤ 1099511627776) : T.tree_node.f 1 t n.f0 n.f1 n.f2 = some (nodeOk t n) := by
  have hj1 : ∀ p, T.tree_node.j0 1 t p true = some false := fun p => by simp [T.tree_node.j0]
  unfold T.tree_node.f nodeOk
  rw [path_some n.f0 hs, Option.bind_some]
  by_cases hb : badP n.f0 = true
  · rw [if_pos hb, if_neg (by simp), hj1, hb]
    rfl
  · rw [if_neg hb, if_pos rfl]
    have hb' : badP n.f0 = false := by simpa using hb
    rw [hb']
    dsimp only
    by_cases hp : (pathB n.f0).toList = n.f0.toList
    · have hpe : pathB n.f0 = n.f0 := by
        rw [Lib.toList_data, Lib.toList_data] at hp
        rw [← mkB_of (pathB n.f0), hp, mkB_of]
      have hj0 : T.tree_node.j0 1 t (pathB n.f0) false = some (kindOf t (dirB n.f0) == 2) := by
        simp only [T.tree_node.j0]
        rw [if_neg (by simp), hpe, above_some n.f0 (by rw [← hpe]; exact path_head _) hs, Option.bind_some]
        unfold tree_kind.f
        rw [if_pos ht, Option.bind_some]
      rw [if_pos hp, show ((pathB n.f0).toList == n.f0.toList) = true from by simp [hp]]
      by_cases h47 : (pathB n.f0).toList = [47]
      · rw [if_pos h47, hj1, show (n.f0.toList == [47]) = true from by rw [← hp]; simp [h47]]
        simp
      · rw [if_neg h47, show (n.f0.toList == [47]) = false from by rw [← hp]; simpa using h47]
        cases n.f1
        · rw [if_neg (by simp), hj0]
          simp
        · rw [if_pos rfl]
          cases h2 : n.f2.toList.isEmpty
          · rw [show (n.f2.toList != []) = true from by cases e : n.f2.toList <;> simp_all, hj1]
            simp
          · rw [show (n.f2.toList != []) = false from by cases e : n.f2.toList <;> simp_all, hj0]
            simp
    · rw [if_neg hp, hj1, show ((pathB n.f0).toList == n.f0.toList) = false from by simpa using hp]
      simp
/-- Octets in all. -/
def total (t : List S73) : Nat := (t.map fun n => n.f2.size).sum
theorem size_go (t : List S73) (ht : total t ≤ 9223372036854775807) (hl : t.length ≤ 9223372036854775806) : ∀ (k i : Nat), i ≤ t.length → t.length - i < k →
    T.tree_size.l0 k ((total (t.take i) : Nat) : Int) t (t.length : Int) (i : Int) = some ((total t : Nat) : Int)
  | 0, i, _, h => by omega
  | k + 1, i, hi, hk => by
    simp only [T.tree_size.l0]
    by_cases h : i < t.length
    · have e : total (t.take (i + 1)) = total (t.take i) + (rd_T73 t (i : Int)).f2.size := by
        unfold total rd_T73
        rw [List.take_succ_eq_append_getElem h, List.map_append, List.sum_append, Int.toNat_natCast, List.getD_eq_getElem?_getD, List.getElem?_eq_getElem h]
        simp
      have hle : total (t.take (i + 1)) ≤ total t := by
        unfold total
        have := congrArg (fun l => (l.map fun n : S73 => n.f2.size).sum) (List.take_append_drop (i + 1) t)
        simp only [List.map_append, List.sum_append] at this
        omega
      rw [if_pos (by omega), if_pos (by omega), if_pos (by omega), w64_id (by omega) (by omega), w64_id (by omega) (by omega)]
      have ih := size_go t ht hl k (i + 1) (by omega) (by omega)
      rw [e] at ih
      exact ih
    · obtain rfl : i = t.length := by omega
      rw [if_neg (by omega), List.take_length]
theorem size_some (t : List S73) (ht : total t ≤ 9223372036854775807) (hl : t.length ≤ 9223372036854775806) : T.tree_size.f (t.length + 1) t = some ((total t : Nat) : Int) :=
  size_go t ht hl (t.length + 1) 0 (Nat.zero_le _) (by omega)
end Go.Proofs.YtdfddiehiiaepaaGreatDoor.Ext

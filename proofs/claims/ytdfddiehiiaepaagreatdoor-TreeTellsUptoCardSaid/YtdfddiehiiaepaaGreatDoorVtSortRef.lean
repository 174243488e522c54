/- Proved: the page's Sorted of texts is the program's. Condition: at most 10 to the 6 texts. -/
import Derived.Test.YtdfddiehiiaepaaGreatDoorVtP4
import Derived.Test.YtdfddiehiiaepaaGreatDoorVtSorted
import Derived.Sort.KeysCollected
set_option linter.unusedVariables false
namespace Go.Proofs.YtdfddiehiiaepaaGreatDoor.PureS
open Go.RowKit Go.Proofs.YtdfddiehiiaepaaGreatDoor.P Go.Proofs.YtdfddiehiiaepaaGreatDoor.Ext Go.Proofs.YtdfddiehiiaepaaGreatDoorW.PrintWords Go.Proofs.YtdfddiehiiaepaaGreatDoorW.PrintLast Go.Proofs.YtdfddiehiiaepaaGreatDoorW.PrintMore
theorem w64 {x : Int} (h0 : -9223372036854775808 ≤ x) (h1 : x ≤ 9223372036854775807) : wrap64 x = x := by unfold wrap64; omega
/-- Enough rounds tell r. -/
def Ev {α : Type} (g : Nat → Option α) (r : α) : Prop := ∃ k0, ∀ k, k0 ≤ k → g k = some r
theorem Ev.step {α : Type} {g h : Nat → Option α} {r : α} (e : ∀ k, g (k + 1) = h k) (hh : Ev h r) : Ev g r := by
  obtain ⟨k0, h0⟩ := hh
  refine ⟨k0 + 1, fun k hk => ?_⟩
  obtain ⟨m, rfl⟩ : ∃ m, k = m + 1 := ⟨k - 1, by omega⟩
  rw [e]
  exact h0 m (by omega)
theorem Ev.const {α : Type} (r : α) : Ev (fun _ => some r) r := ⟨0, fun _ _ => rfl⟩
/-- In order. -/
def le (x y : ByteArray) : Prop := x.data.toList ≤ y.data.toList
theorem le_trans {x y z : ByteArray} (h1 : le x y) (h2 : le y z) : le x z := List.le_trans h1 h2
theorem less_iff (x y : ByteArray) : Op.bytesLess x.toList y.toList = true ↔ ¬ le y x := by
  rw [Lib.toList_data, Lib.toList_data, Go.Proofs.bytesLess_eq, decide_eq_true_eq]
  unfold le
  exact (List.not_le).symm
theorem rd_at (l : List ByteArray) (i : Nat) (h : i < l.length) : rdOf ByteArray.empty l (i : Int) = l[i] := by
  unfold rdOf
  rw [Int.toNat_natCast, List.getD_eq_getElem?_getD, List.getElem?_eq_getElem h]
  rfl
theorem srtL_sorted (l : List ByteArray) : (srtL l).Pairwise (· ≤ ·) := by
  have tr : ∀ a b c : List UInt8, decide (a ≤ b) = true → decide (b ≤ c) = true → decide (a ≤ c) = true := fun a b c h1 h2 => by
    simp only [decide_eq_true_eq] at *
    exact List.le_trans h1 h2
  have tt : ∀ a b : List UInt8, (decide (a ≤ b) || decide (b ≤ a)) = true := fun a b => by
    simp only [Bool.or_eq_true, decide_eq_true_eq]
    exact List.le_total a b
  refine (List.pairwise_mergeSort tr tt (l.map (·.data.toList))).imp ?_
  intro a b h
  simpa using h
theorem srt_sorted (l : List ByteArray) : (srt l).Pairwise le := by
  unfold srt
  rw [List.pairwise_map]
  refine (srtL_sorted l).imp ?_
  intro a b h
  show a.toArray.toList ≤ b.toArray.toList
  simpa using h
theorem srt_perm (l : List ByteArray) : (srt l).Perm l := by
  have h := (List.mergeSort_perm (l.map (·.data.toList)) fun x y => decide (x ≤ y)).map fun x => (⟨x.toArray⟩ : ByteArray)
  rw [List.map_map] at h
  have h2 : l.map ((fun x => (⟨x.toArray⟩ : ByteArray)) ∘ fun x => x.data.toList) = l := by
    conv => rhs; rw [← List.map_id l]
    apply List.map_congr_left
    intro x _
    rfl
  rw [h2] at h
  exact h
/-- The page's way: v put in its place. -/
def insT (v : ByteArray) : List ByteArray → List ByteArray → List ByteArray
  | [], B => v :: B
  | a :: A, B => if Op.bytesLess v.toList a.toList = true then insT v A (a :: B) else (a :: A).reverse ++ v :: B
theorem insT_perm (v : ByteArray) : ∀ A B : List ByteArray, (insT v A B).Perm (v :: (A.reverse ++ B))
  | [], B => by rw [insT]; exact List.Perm.refl _
  | a :: A, B => by
    rw [insT]
    split
    · have := insT_perm v A (a :: B)
      rw [List.reverse_cons, List.append_assoc]
      exact this
    · exact List.perm_middle
theorem insT_sorted (v : ByteArray) : ∀ A B : List ByteArray, (A.reverse ++ B).Pairwise le → (∀ b ∈ B, le v b) → (insT v A B).Pairwise le
  | [], B, h, hb => by
    rw [insT, List.pairwise_cons]
    exact ⟨hb, h⟩
  | a :: A, B, h, hb => by
    rw [insT]
    split
    · next hlt =>
      refine insT_sorted v A (a :: B) (by rw [List.reverse_cons, List.append_assoc] at h; exact h) ?_
      have hva : le v a := by
        have := (less_iff v a).1 hlt
        exact (List.le_total v.data.toList a.data.toList).resolve_right this
      intro b hbm
      rcases List.mem_cons.1 hbm with rfl | hbm
      · exact hva
      · exact hb b hbm
    · next hlt =>
      have hav : le a v := Classical.not_not.1 (fun e => hlt ((less_iff v a).2 e))
      rw [List.pairwise_append] at h ⊢
      refine ⟨h.1, List.pairwise_cons.2 ⟨hb, h.2.1⟩, ?_⟩
      intro x hx y hy
      have hxa : le x a := by
        rw [List.reverse_cons] at hx
        rcases List.mem_append.1 hx with hx | hx
        · have h1 := h.1
          rw [List.reverse_cons, List.pairwise_append] at h1
          exact h1.2.2 x hx a (by simp)
        · rw [List.mem_singleton] at hx
          rw [hx]
          exact List.le_refl _
      rcases List.mem_cons.1 hy with rfl | hy
      · exact le_trans hxa hav
      · exact h.2.2 x hx y hy
theorem set_mid {α : Type} (A : List α) (h v : α) (B : List α) : (A ++ h :: B).set A.length v = A ++ v :: B := by
  rw [List.set_append_right _ _ (Nat.le_refl _), Nat.sub_self]
  rfl
theorem ins_l1 (x0 : List ByteArray) (i : Nat) (hi : i < x0.length) (hx : x0.length ≤ 1000000000) (R : List ByteArray) : ∀ (A : List ByteArray) (h : ByteArray) (B : List ByteArray), A.length + 1 + B.length ≤ 1000000000 →
    Ev (fun k => cowrieref01_Sorted.l0 k x0 (insT x0[i] A B) ((i : Int) + 1)) R → Ev (fun k => cowrieref01_Sorted.l1 k x0 (A.reverse ++ h :: B) (i : Int) (A.length : Int)) R
  | [], h, B, hl, hev => by
    refine Ev.step (fun k => ?_) hev
    rw [cowrieref01_Sorted.l1, if_neg (by simp), if_pos (by omega), if_pos (by omega), if_pos (by simp), if_pos (by simp <;> omega), rd_at x0 i hi, w64 (by omega) (by omega)]
    rfl
  | a :: A, h, B, hl, hev => by
    have hlen : (((a :: A).reverse ++ h :: B).length : Int) = (A.length : Int) + 1 + 1 + B.length := by simp; omega
    simp only [List.length_cons] at hl
    have hw : wrap64 (((a :: A).length : Int) - 1) = (A.length : Int) := by
      rw [w64 (by simp only [List.length_cons]; omega) (by simp only [List.length_cons]; omega)]
      simp
    have hrd : rdOf ByteArray.empty ((a :: A).reverse ++ h :: B) (A.length : Int) = a := by
      have e : (a :: A).reverse ++ h :: B = A.reverse ++ a :: (h :: B) := by simp
      unfold rdOf
      rw [Int.toNat_natCast, List.getD_eq_getElem?_getD, e, List.getElem?_append_right (by simp)]
      simp
    have hset : ∀ v : ByteArray, ((a :: A).reverse ++ h :: B).set ((a :: A).length : Int).toNat v = (a :: A).reverse ++ v :: B := by
      intro v
      rw [Int.toNat_natCast, ← List.length_reverse, set_mid]
    rw [insT] at hev
    by_cases hlt : Op.bytesLess (x0[i]).toList a.toList = true
    · rw [if_pos hlt] at hev
      have ih := ins_l1 x0 i hi hx R A a (a :: B) (by simp only [List.length_cons]; omega) hev
      refine Ev.step (fun k => ?_) ih
      rw [cowrieref01_Sorted.l1, if_pos (by simp only [List.length_cons]; omega), hw, if_pos (by omega), if_pos (by rw [hlen]; omega), if_pos (by omega), if_pos (by omega), rd_at x0 i hi, hrd, if_pos hlt, if_pos (by omega), if_pos (by rw [hlen]; simp only [List.length_cons]; omega), hset]
      rw [List.reverse_cons, List.append_assoc]
      rfl
    · rw [if_neg hlt] at hev
      refine Ev.step (fun k => ?_) hev
      rw [cowrieref01_Sorted.l1, if_pos (by simp only [List.length_cons]; omega), hw, if_pos (by omega), if_pos (by rw [hlen]; omega), if_pos (by omega), if_pos (by omega), rd_at x0 i hi, hrd, if_neg hlt, if_pos (by omega), if_pos (by rw [hlen]; simp only [List.length_cons]; omega), hset, w64 (by omega) (by omega)]
theorem sorted_l0 (x0 : List ByteArray) (hx : x0.length ≤ 100000000) : ∀ (d i : Nat) (x3 : List ByteArray), i + d = x0.length → x3.length = i → x3.Perm (x0.take i) → x3.Pairwise le →
    ∃ R, Ev (fun k => cowrieref01_Sorted.l0 k x0 x3 (i : Int)) R ∧ R.Perm x0 ∧ R.Pairwise le
  | 0, i, x3, hi, h3, hp, hs => by
    refine ⟨x3, Ev.step (h := fun _ => some x3) (fun k => by rw [cowrieref01_Sorted.l0, if_neg (by omega)]) (Ev.const _), ?_, hs⟩
    rw [List.take_of_length_le (by omega)] at hp
    exact hp
  | d + 1, i, x3, hi, h3, hp, hs => by
    have hiL : i < x0.length := by omega
    have hperm : (insT x0[i] x3.reverse []).Perm (x0.take (i + 1)) := by
      have h1 := insT_perm x0[i] x3.reverse []
      rw [List.reverse_reverse, List.append_nil] at h1
      rw [List.take_succ_eq_append_getElem hiL]
      exact h1.trans ((hp.cons _).trans (List.perm_append_comm (l₁ := [x0[i]])))
    have hsort : (insT x0[i] x3.reverse []).Pairwise le := insT_sorted x0[i] x3.reverse [] (by rw [List.reverse_reverse, List.append_nil]; exact hs) (by simp)
    have hlen := hperm.length_eq
    rw [List.length_take, Nat.min_eq_left (by omega)] at hlen
    obtain ⟨R, e1, e2, e3⟩ := sorted_l0 x0 hx d (i + 1) (insT x0[i] x3.reverse []) (by omega) hlen hperm hsort
    refine ⟨R, ?_, e2, e3⟩
    have hins := ins_l1 x0 i hiL (by omega) R x3.reverse ⟨#[]⟩ [] (by simp; omega) e1
    rw [List.reverse_reverse, List.length_reverse] at hins
    refine Ev.step (fun k => ?_) hins
    rw [cowrieref01_Sorted.l0, if_pos (by omega), if_pos (by omega)]
theorem texts_same (L : List ByteArray) (hL : L.length ≤ 1000000000) : Ev (fun k => cowrieplain_SameTexts.f k L L) true := by
  refine ⟨L.length + 1, fun k hk => ?_⟩
  have hrun : ∀ (d k : Nat) (i : Nat), i + d = L.length → d < k → cowrieplain_SameTexts.l0 k L L (i : Int) = some true := by
    intro d
    induction d with
    | zero =>
      intro k i hi hk
      obtain ⟨m, rfl⟩ : ∃ m, k = m + 1 := ⟨k - 1, by omega⟩
      rw [cowrieplain_SameTexts.l0, if_neg (by omega)]
    | succ d ih =>
      intro k i hi hk
      obtain ⟨m, rfl⟩ : ∃ m, k = m + 1 := ⟨k - 1, by omega⟩
      rw [cowrieplain_SameTexts.l0, if_pos (by omega), if_pos (by omega), if_pos (by omega), if_pos rfl, w64 (by omega) (by omega)]
      exact ih m (i + 1) (by omega) (by omega)
  show cowrieplain_SameTexts.f k L L = some true
  unfold cowrieplain_SameTexts.f
  rw [if_pos rfl]
  exact hrun L.length k 0 (by omega) (by omega)
theorem ref_sorted (l0 : List ByteArray) (hl : l0.length ≤ 1000000) : Ev (fun k => cowrieref01_Sorted.f k l0) (srt l0) := by
  obtain ⟨R, e1, e2, e3⟩ := sorted_l0 l0 (by omega) l0.length 0 [] (by omega) rfl (by simp) List.Pairwise.nil
  have hR : R = srt l0 := by
    refine List.Perm.eq_of_pairwise (le := le) (fun a b _ _ h1 h2 => ?_) e3 (srt_sorted l0) (e2.trans (srt_perm l0).symm)
    apply ByteArray.ext
    exact Array.toList_inj.1 (List.le_antisymm h1 h2)
  subst hR
  exact e1
end Go.Proofs.YtdfddiehiiaepaaGreatDoor.PureS

/- Proved: OctetsOrder's and OctetsOwn's laws (as told) answer true for rows of texts whose bulk is at most 1048576. Plain Lean: no program's step. -/
import Derived.Test.YteobnfcdlcemlaaDoorP66
import Derived.Test.YteobnfcdlcemlaaDoorP71
import Derived.Sort.KeysCollected
set_option linter.unusedVariables false
namespace Go.Proofs.YteobnfcdlcemlaaDoor.PureS
open Go.RowKit Go.Proofs.YteobnfcdlcemlaaDoor.P Go.Proofs.YteobnfcdlcemlaaDoor.Ext Go.Proofs.YteobnfcdlcemlaaDoorW.PrintWords Go.Proofs.YteobnfcdlcemlaaDoorW.PrintLast Go.Proofs.YteobnfcdlcemlaaDoorW.PrintMore

theorem w64 {x : Int} (h0 : -9223372036854775808 ≤ x) (h1 : x ≤ 9223372036854775807) : wrap64 x = x := by unfold wrap64; omega
/-- Enough rounds tell r. -/
def Ev {α : Type} (g : Nat → Option α) (r : α) : Prop := ∃ k0, ∀ k, k0 ≤ k → g k = some r
theorem Ev.step {α : Type} {g h : Nat → Option α} {r : α} (e : ∀ k, g (k + 1) = h k) (hh : Ev h r) : Ev g r := by
  obtain ⟨k0, h0⟩ := hh
  refine ⟨k0 + 1, fun k hk => ?_⟩
  obtain ⟨m, rfl⟩ : ∃ m, k = m + 1 := ⟨k - 1, by omega⟩
  rw [e]
  exact h0 m (by omega)
theorem Ev.const {α : Type} (r : α) : Ev (fun _ => some r) r := ⟨0, fun _ _ => rfl⟩

/-- In order. -/
def le (x y : ByteArray) : Prop := x.data.toList ≤ y.data.toList
theorem le_trans {x y z : ByteArray} (h1 : le x y) (h2 : le y z) : le x z := List.le_trans h1 h2
theorem less_iff (x y : ByteArray) : Op.bytesLess x.toList y.toList = true ↔ ¬ le y x := by
  rw [Lib.toList_data, Lib.toList_data, Go.Proofs.bytesLess_eq, decide_eq_true_eq]
  unfold le
  exact (List.not_le).symm
theorem rd_at (l : List ByteArray) (i : Nat) (h : i < l.length) : rdOf ByteArray.empty l (i : Int) = l[i] := by
  unfold rdOf
  rw [Int.toNat_natCast, List.getD_eq_getElem?_getD, List.getElem?_eq_getElem h]
  rfl
theorem eq_iff (x y : ByteArray) : x.toList = y.toList ↔ x = y := by
  rw [Lib.toList_data, Lib.toList_data]
  constructor
  · intro h
    apply ByteArray.ext
    exact Array.toList_inj.1 h
  · rintro rfl
    rfl

theorem srtL_sorted (l : List ByteArray) : (srtL l).Pairwise (· ≤ ·) := by
  have tr : ∀ a b c : List UInt8, decide (a ≤ b) = true → decide (b ≤ c) = true → decide (a ≤ c) = true := fun a b c h1 h2 => by
    simp only [decide_eq_true_eq] at *
    exact List.le_trans h1 h2
  have tt : ∀ a b : List UInt8, (decide (a ≤ b) || decide (b ≤ a)) = true := fun a b => by
    simp only [Bool.or_eq_true, decide_eq_true_eq]
    exact List.le_total a b
  refine (List.pairwise_mergeSort tr tt (l.map (·.data.toList))).imp ?_
  intro a b h
  simpa using h
theorem srt_sorted (l : List ByteArray) : (srt l).Pairwise le := by
  unfold srt
  rw [List.pairwise_map]
  refine (srtL_sorted l).imp ?_
  intro a b h
  show a.toArray.toList ≤ b.toArray.toList
  simpa using h
theorem srt_perm (l : List ByteArray) : (srt l).Perm l := by
  have h := (List.mergeSort_perm (l.map (·.data.toList)) fun x y => decide (x ≤ y)).map fun x => (⟨x.toArray⟩ : ByteArray)
  rw [List.map_map] at h
  have h2 : l.map ((fun x => (⟨x.toArray⟩ : ByteArray)) ∘ fun x => x.data.toList) = l := by
    conv => rhs; rw [← List.map_id l]
    apply List.map_congr_left
    intro x _
    rfl
  rw [h2] at h
  exact h

/-! ### Order -/
def cnt (s : ByteArray) (l : List ByteArray) : Nat := l.countP fun y => decide (y = s)
theorem cnt_le (s : ByteArray) (l : List ByteArray) : cnt s l ≤ l.length := List.countP_le_length
theorem order_l1 (x0 : List ByteArray) (s : ByteArray) (out : List ByteArray) (hs : out.Pairwise le) (hl : out.length ≤ 1000000000) (ha : out.length = x0.length) (a : Nat) : ∀ (d i b : Nat), i + d = out.length → b + d ≤ 2000000000 → b + cnt s (out.drop i) = a →
    Ev (fun k => cowrielaw01_OctetsOrder.l1 k x0 s out (a : Int) (b : Int) (i : Int)) true
  | 0, i, b, hi, hb, hc => by
    rw [List.drop_of_length_le (by omega)] at hc
    have hc0 : cnt s [] = 0 := rfl
    refine Ev.step (h := fun _ => some true) (fun k => ?_) (Ev.const _)
    rw [cowrielaw01_OctetsOrder.l1, if_neg (by omega), if_pos (by omega), ha]
    simp
  | d + 1, i, b, hi, hb, hc => by
    have hiL : i < out.length := by omega
    rw [List.drop_eq_getElem_cons hiL] at hc
    have hcc : cnt s (out[i] :: out.drop (i + 1)) = cnt s (out.drop (i + 1)) + (if out[i] = s then 1 else 0) := by
      unfold cnt
      rw [List.countP_cons]
      simp
    rw [hcc] at hc
    have hle : 0 < i → ¬ Op.bytesLess (out[i]).toList (rdOf ByteArray.empty out (wrap64 ((i : Int) - 1))).toList = true := by
      intro h0
      rw [w64 (by omega) (by omega), show ((i : Int) - 1) = ((i - 1 : Nat) : Int) by omega, rd_at out (i - 1) (by omega), less_iff]
      intro h
      exact h (List.pairwise_iff_getElem.1 hs (i - 1) i (by omega) hiL (by omega))
    have hbr : ∀ b' : Nat, (b' : Int) = (if out[i] = s then (b : Int) + 1 else b) → b' + d ≤ 2000000000 → b' + cnt s (out.drop (i + 1)) = a → Ev (fun k => cowrielaw01_OctetsOrder.l1 k x0 s out (a : Int) (b : Int) (i : Int)) true := by
      intro b' hb' h1 h2
      have ih := order_l1 x0 s out hs hl ha a d (i + 1) b' (by omega) h1 h2
      refine Ev.step (fun k => ?_) ih
      rw [cowrielaw01_OctetsOrder.l1, if_pos (by omega), if_pos (by omega), rd_at out i hiL]
      by_cases he : out[i] = s
      · rw [if_pos he] at hb'
        rw [if_pos ((eq_iff _ _).2 he)]
        by_cases h0 : 0 < i
        · rw [if_pos (by omega), if_pos (by rw [w64 (by omega) (by omega)]; omega), if_pos (by rw [w64 (by omega) (by omega)]; omega), if_neg (hle h0), w64 (x := (b : Int) + 1) (by omega) (by omega), w64 (x := (i : Int) + 1) (by omega) (by omega), ← hb']
          rfl
        · rw [if_neg (by omega), w64 (x := (b : Int) + 1) (by omega) (by omega), w64 (x := (i : Int) + 1) (by omega) (by omega), ← hb']
          rfl
      · rw [if_neg he] at hb'
        rw [if_neg (fun h => he ((eq_iff _ _).1 h))]
        by_cases h0 : 0 < i
        · rw [if_pos (by omega), if_pos (by rw [w64 (by omega) (by omega)]; omega), if_pos (by rw [w64 (by omega) (by omega)]; omega), if_neg (hle h0), w64 (x := (i : Int) + 1) (by omega) (by omega), ← hb']
          rfl
        · rw [if_neg (by omega), w64 (x := (i : Int) + 1) (by omega) (by omega), ← hb']
          rfl
    by_cases he : out[i] = s
    · rw [if_pos he] at hc
      exact hbr (b + 1) (by rw [if_pos he]; rfl) (by omega) (by omega)
    · rw [if_neg he] at hc
      exact hbr b (by rw [if_neg he]) (by omega) (by omega)
theorem order_l0 (x0 : List ByteArray) (s : ByteArray) (out : List ByteArray) (hs : out.Pairwise le) (hp : out.Perm x0) (hl : x0.length ≤ 1000000000) : ∀ (d i a : Nat), i + d = x0.length → a + d ≤ 2000000000 → a + cnt s (x0.drop i) = cnt s x0 →
    Ev (fun k => cowrielaw01_OctetsOrder.l0 k x0 s out (a : Int) 0 (i : Int)) true
  | 0, i, a, hi, hb, hc => by
    rw [List.drop_of_length_le (by omega)] at hc
    have hc0 : cnt s [] = 0 := rfl
    have hlen := hp.length_eq
    have h1 := order_l1 x0 s out hs (by omega) hlen a out.length 0 0 (by omega) (by omega) (by rw [List.drop_zero]; have := hp.countP_eq (fun y => decide (y = s)); unfold cnt at *; omega)
    refine Ev.step (fun k => ?_) h1
    rw [cowrielaw01_OctetsOrder.l0, if_neg (by omega)]
    rfl
  | d + 1, i, a, hi, hb, hc => by
    have hiL : i < x0.length := by omega
    rw [List.drop_eq_getElem_cons hiL] at hc
    have hcc : cnt s (x0[i] :: x0.drop (i + 1)) = cnt s (x0.drop (i + 1)) + (if x0[i] = s then 1 else 0) := by
      unfold cnt
      rw [List.countP_cons]
      simp
    rw [hcc] at hc
    by_cases he : x0[i] = s
    · rw [if_pos he] at hc
      have ih := order_l0 x0 s out hs hp hl d (i + 1) (a + 1) (by omega) (by omega) (by omega)
      refine Ev.step (fun k => ?_) ih
      rw [cowrielaw01_OctetsOrder.l0, if_pos (by omega), if_pos (by omega), rd_at x0 i hiL, if_pos ((eq_iff _ _).2 he), w64 (by omega) (by omega), w64 (by omega) (by omega)]
      rfl
    · rw [if_neg he] at hc
      have ih := order_l0 x0 s out hs hp hl d (i + 1) a (by omega) (by omega) (by omega)
      refine Ev.step (fun k => ?_) ih
      rw [cowrielaw01_OctetsOrder.l0, if_pos (by omega), if_pos (by omega), rd_at x0 i hiL, if_neg (fun h => he ((eq_iff _ _).1 h)), w64 (by omega) (by omega)]
      rfl
theorem len_bulk : ∀ l : List ByteArray, l.length ≤ (l.map fun y0 => y0.size + 1).sum
  | [] => Nat.zero_le _
  | x :: l => by
    have := len_bulk l
    rw [List.map_cons, List.sum_cons, List.length_cons]
    omega
theorem OctetsOrderU (l0 : List ByteArray) (a1 : ByteArray) (hb : (l0.map fun y0 => y0.size + 1).sum ≤ 1048576) : ∃ k, cowrielaw01_OctetsOrder.f k l0 a1 = some true := by
  have hl := len_bulk l0
  obtain ⟨k, hk⟩ := order_l0 l0 a1 (srt l0) (srt_sorted l0) (srt_perm l0) (by omega) l0.length 0 0 (by omega) (by omega) (by rw [List.drop_zero]; omega)
  refine ⟨k, ?_⟩
  unfold cowrielaw01_OctetsOrder.f cowrielaw01_alive.f octets_Sorted.f
  rw [Option.bind_some, if_pos rfl, if_pos (by omega), Option.bind_some]
  exact hk k (Nat.le_refl _)

/-! ### Own -/
/-- The page's way: v put in its place. -/
def insT (v : ByteArray) : List ByteArray → List ByteArray → List ByteArray
  | [], B => v :: B
  | a :: A, B => if Op.bytesLess v.toList a.toList = true then insT v A (a :: B) else (a :: A).reverse ++ v :: B
theorem insT_perm (v : ByteArray) : ∀ A B : List ByteArray, (insT v A B).Perm (v :: (A.reverse ++ B))
  | [], B => by rw [insT]; exact List.Perm.refl _
  | a :: A, B => by
    rw [insT]
    split
    · have := insT_perm v A (a :: B)
      rw [List.reverse_cons, List.append_assoc]
      exact this
    · exact List.perm_middle
theorem insT_sorted (v : ByteArray) : ∀ A B : List ByteArray, (A.reverse ++ B).Pairwise le → (∀ b ∈ B, le v b) → (insT v A B).Pairwise le
  | [], B, h, hb => by
    rw [insT, List.pairwise_cons]
    exact ⟨hb, h⟩
  | a :: A, B, h, hb => by
    rw [insT]
    split
    · next hlt =>
      refine insT_sorted v A (a :: B) (by rw [List.reverse_cons, List.append_assoc] at h; exact h) ?_
      have hva : le v a := by
        have := (less_iff v a).1 hlt
        exact (List.le_total v.data.toList a.data.toList).resolve_right this
      intro b hbm
      rcases List.mem_cons.1 hbm with rfl | hbm
      · exact hva
      · exact hb b hbm
    · next hlt =>
      have hav : le a v := Classical.not_not.1 (fun e => hlt ((less_iff v a).2 e))
      rw [List.pairwise_append] at h ⊢
      refine ⟨h.1, List.pairwise_cons.2 ⟨hb, h.2.1⟩, ?_⟩
      intro x hx y hy
      have hxa : le x a := by
        rw [List.reverse_cons] at hx
        rcases List.mem_append.1 hx with hx | hx
        · have h1 := h.1
          rw [List.reverse_cons, List.pairwise_append] at h1
          exact h1.2.2 x hx a (by simp)
        · rw [List.mem_singleton] at hx
          rw [hx]
          exact List.le_refl _
      rcases List.mem_cons.1 hy with rfl | hy
      · exact le_trans hxa hav
      · exact h.2.2 x hx y hy
theorem set_mid {α : Type} (A : List α) (h v : α) (B : List α) : (A ++ h :: B).set A.length v = A ++ v :: B := by
  rw [List.set_append_right _ _ (Nat.le_refl _), Nat.sub_self]
  rfl
theorem ins_l1 (x0 : List ByteArray) (i : Nat) (hi : i < x0.length) (hx : x0.length ≤ 1000000000) (R : List ByteArray) : ∀ (A : List ByteArray) (h : ByteArray) (B : List ByteArray), A.length + 1 + B.length ≤ 1000000000 →
    Ev (fun k => cowrieref01_Sorted.l0 k x0 (insT x0[i] A B) ((i : Int) + 1)) R → Ev (fun k => cowrieref01_Sorted.l1 k x0 (A.reverse ++ h :: B) (i : Int) (A.length : Int)) R
  | [], h, B, hl, hev => by
    refine Ev.step (fun k => ?_) hev
    rw [cowrieref01_Sorted.l1, if_neg (by simp), if_pos (by omega), if_pos (by omega), if_pos (by simp), if_pos (by simp <;> omega), rd_at x0 i hi, w64 (by omega) (by omega)]
    rfl
  | a :: A, h, B, hl, hev => by
    have hlen : (((a :: A).reverse ++ h :: B).length : Int) = (A.length : Int) + 1 + 1 + B.length := by simp; omega
    simp only [List.length_cons] at hl
    have hw : wrap64 (((a :: A).length : Int) - 1) = (A.length : Int) := by
      rw [w64 (by simp only [List.length_cons]; omega) (by simp only [List.length_cons]; omega)]
      simp
    have hrd : rdOf ByteArray.empty ((a :: A).reverse ++ h :: B) (A.length : Int) = a := by
      have e : (a :: A).reverse ++ h :: B = A.reverse ++ a :: (h :: B) := by simp
      unfold rdOf
      rw [Int.toNat_natCast, List.getD_eq_getElem?_getD, e, List.getElem?_append_right (by simp)]
      simp
    have hset : ∀ v : ByteArray, ((a :: A).reverse ++ h :: B).set ((a :: A).length : Int).toNat v = (a :: A).reverse ++ v :: B := by
      intro v
      rw [Int.toNat_natCast, ← List.length_reverse, set_mid]
    rw [insT] at hev
    by_cases hlt : Op.bytesLess (x0[i]).toList a.toList = true
    · rw [if_pos hlt] at hev
      have ih := ins_l1 x0 i hi hx R A a (a :: B) (by simp only [List.length_cons]; omega) hev
      refine Ev.step (fun k => ?_) ih
      rw [cowrieref01_Sorted.l1, if_pos (by simp only [List.length_cons]; omega), hw, if_pos (by omega), if_pos (by rw [hlen]; omega), if_pos (by omega), if_pos (by omega), rd_at x0 i hi, hrd, if_pos hlt, if_pos (by omega), if_pos (by rw [hlen]; simp only [List.length_cons]; omega), hset]
      rw [List.reverse_cons, List.append_assoc]
      rfl
    · rw [if_neg hlt] at hev
      refine Ev.step (fun k => ?_) hev
      rw [cowrieref01_Sorted.l1, if_pos (by simp only [List.length_cons]; omega), hw, if_pos (by omega), if_pos (by rw [hlen]; omega), if_pos (by omega), if_pos (by omega), rd_at x0 i hi, hrd, if_neg hlt, if_pos (by omega), if_pos (by rw [hlen]; simp only [List.length_cons]; omega), hset, w64 (by omega) (by omega)]
theorem sorted_l0 (x0 : List ByteArray) (hx : x0.length ≤ 100000000) : ∀ (d i : Nat) (x3 : List ByteArray), i + d = x0.length → x3.length = i → x3.Perm (x0.take i) → x3.Pairwise le →
    ∃ R, Ev (fun k => cowrieref01_Sorted.l0 k x0 x3 (i : Int)) R ∧ R.Perm x0 ∧ R.Pairwise le
  | 0, i, x3, hi, h3, hp, hs => by
    refine ⟨x3, Ev.step (h := fun _ => some x3) (fun k => by rw [cowrieref01_Sorted.l0, if_neg (by omega)]) (Ev.const _), ?_, hs⟩
    rw [List.take_of_length_le (by omega)] at hp
    exact hp
  | d + 1, i, x3, hi, h3, hp, hs => by
    have hiL : i < x0.length := by omega
    have hperm : (insT x0[i] x3.reverse []).Perm (x0.take (i + 1)) := by
      have h1 := insT_perm x0[i] x3.reverse []
      rw [List.reverse_reverse, List.append_nil] at h1
      rw [List.take_succ_eq_append_getElem hiL]
      exact h1.trans ((hp.cons _).trans (List.perm_append_comm (l₁ := [x0[i]])))
    have hsort : (insT x0[i] x3.reverse []).Pairwise le := insT_sorted x0[i] x3.reverse [] (by rw [List.reverse_reverse, List.append_nil]; exact hs) (by simp)
    have hlen := hperm.length_eq
    rw [List.length_take, Nat.min_eq_left (by omega)] at hlen
    obtain ⟨R, e1, e2, e3⟩ := sorted_l0 x0 hx d (i + 1) (insT x0[i] x3.reverse []) (by omega) hlen hperm hsort
    refine ⟨R, ?_, e2, e3⟩
    have hins := ins_l1 x0 i hiL (by omega) R x3.reverse ⟨#[]⟩ [] (by simp; omega) e1
    rw [List.reverse_reverse, List.length_reverse] at hins
    refine Ev.step (fun k => ?_) hins
    rw [cowrieref01_Sorted.l0, if_pos (by omega), if_pos (by omega)]
theorem spoil_l0 : ∀ (d i : Nat) (x0 : List ByteArray), i + d = x0.length → x0.length ≤ 1000000000 → ∃ R, Ev (fun k => cowrieplain_SpoilTexts.l0 k x0 (i : Int)) R
  | 0, i, x0, hi, hl => ⟨x0, Ev.step (h := fun _ => some x0) (fun k => by rw [cowrieplain_SpoilTexts.l0, if_neg (by omega)]) (Ev.const _)⟩
  | d + 1, i, x0, hi, hl => by
    obtain ⟨R, hR⟩ := spoil_l0 d (i + 1) (x0.set (i : Int).toNat (⟨#[115, 112, 111, 105, 108, 116]⟩ : ByteArray)) (by rw [List.length_set]; omega) (by rw [List.length_set]; omega)
    refine ⟨R, Ev.step (fun k => ?_) hR⟩
    rw [cowrieplain_SpoilTexts.l0, if_pos (by omega), if_pos (by omega), w64 (by omega) (by omega)]
    rfl
theorem texts_same (L : List ByteArray) (hL : L.length ≤ 1000000000) : Ev (fun k => cowrieplain_SameTexts.f k L L) true := by
  refine ⟨L.length + 1, fun k hk => ?_⟩
  have hrun : ∀ (d k : Nat) (i : Nat), i + d = L.length → d < k → cowrieplain_SameTexts.l0 k L L (i : Int) = some true := by
    intro d
    induction d with
    | zero =>
      intro k i hi hk
      obtain ⟨m, rfl⟩ : ∃ m, k = m + 1 := ⟨k - 1, by omega⟩
      rw [cowrieplain_SameTexts.l0, if_neg (by omega)]
    | succ d ih =>
      intro k i hi hk
      obtain ⟨m, rfl⟩ : ∃ m, k = m + 1 := ⟨k - 1, by omega⟩
      rw [cowrieplain_SameTexts.l0, if_pos (by omega), if_pos (by omega), if_pos (by omega), if_pos rfl, w64 (by omega) (by omega)]
      exact ih m (i + 1) (by omega) (by omega)
  show cowrieplain_SameTexts.f k L L = some true
  unfold cowrieplain_SameTexts.f
  rw [if_pos rfl]
  exact hrun L.length k 0 (by omega) (by omega)
theorem OctetsOwnU (l0 : List ByteArray) (hb : (l0.map fun y0 => y0.size + 1).sum ≤ 1048576) : ∃ k, cowrielaw01_OctetsOwn.f k l0 = some true := by
  have hl := len_bulk l0
  obtain ⟨R, e1, e2, e3⟩ := sorted_l0 l0 (by omega) l0.length 0 [] (by omega) rfl (by simp) List.Pairwise.nil
  have hR : R = srt l0 := by
    refine List.Perm.eq_of_pairwise (le := le) (fun a b _ _ h1 h2 => ?_) e3 (srt_sorted l0) (e2.trans (srt_perm l0).symm)
    apply ByteArray.ext
    exact Array.toList_inj.1 (List.le_antisymm h1 h2)
  subst hR
  obtain ⟨Q, hQ⟩ := spoil_l0 l0.length 0 l0 (by omega) (by omega)
  obtain ⟨k1, h1⟩ := e1
  obtain ⟨k2, h2⟩ := hQ
  obtain ⟨k3, h3⟩ := texts_same (srt l0) (by rw [srt_length]; omega)
  obtain ⟨K, hK⟩ : ∃ K, K = k1 + k2 + k3 := ⟨_, rfl⟩
  have f1 : cowrieref01_Sorted.f K l0 = some (srt l0) := h1 K (by omega)
  have f2 : cowrieplain_SpoilTexts.f K l0 = some Q := h2 K (by omega)
  have f3 : cowrieplain_SameTexts.f K (srt l0) (srt l0) = some true := h3 K (by omega)
  refine ⟨K, ?_⟩
  have f4 : cowrieplain_CopyTexts.f l0 = some l0 := by
    unfold cowrieplain_CopyTexts.f
    rw [if_pos (by simp; omega)]
    rfl
  have f5 : octets_Sorted.f l0 = some (srt l0) := by
    unfold octets_Sorted.f
    rw [if_pos (by omega)]
  unfold cowrielaw01_OctetsOwn.f cowrielaw01_alive.f
  rw [Option.bind_some, if_pos rfl, f4, Option.bind_some, f5, Option.bind_some, f2, Option.bind_some, f1, Option.bind_some, f3, Option.bind_some]

end Go.Proofs.YteobnfcdlcemlaaDoor.PureS

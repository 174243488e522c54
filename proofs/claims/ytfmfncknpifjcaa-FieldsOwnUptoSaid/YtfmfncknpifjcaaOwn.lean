/- Under way: the walk of FieldsOwn: what is kept of the pieces whose octets are spoiled (HD), and the walk. -/
import Derived.Test.YtfmfncknpifjcaaRefC
import Derived.Test.YtfmfncknpifjcaaP9
import Derived.Test.YtfmfncknpifjcaaP11
import Derived.Test.YtfmfncknpifjcaaP6
import Derived.Test.YtfmfncknpifjcaaFields
set_option linter.unusedVariables false
namespace Go.Proofs.Ytfmfncknpifjcaa.Ext
open Go.RowKit Go.Proofs.Ytfmfncknpifjcaa.P Go.Proofs.YtfmfncknpifjcaaW.PrintWords

/-- Of the pieces at block g only this: their rows of octets are of these lengths, and of blocks from lo to hi. -/
def HD (lo hi g : Nat) (L : List S28) (W : World) : Prop :=
  (∃ hs, W.heap[g]? = some (.cells hs 28 (0, 0))) ∧ ∀ i (h : i < L.length), ∃ A c, W.cell? ⟨g, i * 4, none⟩ = some (.slice A (L[i]).f0.length c) ∧
    (0 < (L[i]).f0.length → ∃ b cur, A = some ⟨b, 0, none⟩ ∧ lo ≤ b ∧ b < hi ∧ W.heap[b]? = some (.cells cur 24 (0, 0)) ∧ 2 * (L[i]).f0.length ≤ cur.size)
theorem HD.below {lo hi g : Nat} {L : List S28} {W W1 : World} (h : HD lo hi g L W) (hb : Below W.heap.size W W1) : HD lo hi g L W1 := by
  obtain ⟨⟨hs, h0⟩, h1⟩ := h
  refine ⟨⟨hs, by rw [hb.block g (Array.getElem?_eq_some_iff.1 h0).1]; exact h0⟩, fun i hi' => ?_⟩
  obtain ⟨A, c, h2, h3⟩ := h1 i hi'
  refine ⟨A, c, pw_cell_below hb h2, fun hp => ?_⟩
  obtain ⟨b, cur, e, l1, l2, h4, h5⟩ := h3 hp
  exact ⟨b, cur, e, l1, l2, by rw [hb.block b (Array.getElem?_eq_some_iff.1 h4).1]; exact h4, h5⟩
theorem HD.set {lo hi g b j : Nat} {L : List S28} {W : World} {cur : Array Value} (h : HD lo hi g L W) (hb : W.heap[b]? = some (.cells cur 24 (0, 0))) (u : Value) : HD lo hi g L (W.setCell ⟨b, j, none⟩ u) := by
  obtain ⟨⟨hs, h0⟩, h1⟩ := h
  have hgb : g ≠ b := by
    rintro rfl
    rw [h0] at hb
    simp at hb
  refine ⟨⟨hs, by rw [Below.heap_setCell W ⟨b, j, none⟩ u g hgb]; exact h0⟩, fun i hi' => ?_⟩
  obtain ⟨A, c, h2, h3⟩ := h1 i hi'
  refine ⟨A, c, (cell_far (p := ⟨b, j, none⟩) hgb u).trans h2, fun hp => ?_⟩
  obtain ⟨b', cur', e, l1, l2, h4, h5⟩ := h3 hp
  by_cases hbb : b' = b
  · subst hbb
    rw [hb] at h4
    simp only [Option.some.injEq, Obj.cells.injEq] at h4
    obtain ⟨rfl, _, _⟩ := h4
    exact ⟨b', _, e, l1, l2, blk_put hb u, by simpa using h5⟩
  · exact ⟨b', cur', e, l1, l2, by rw [Below.heap_setCell W ⟨b, j, none⟩ u b' hbb]; exact h4, h5⟩
theorem HD.of {B : Nat} {W : World} {v : Value} {L : List S28} (h : Kd.S k28 28 W B (fun _ => True) v L) : L = [] ∨ ∃ g c, v = .slice (some ⟨g, 0, none⟩) L.length c ∧ L.length ≤ c ∧ HD B W.heap.size g L W := by
  obtain ⟨inner, hl, ho⟩ := Kd.S_own h
  rcases ho with ⟨rfl, h0⟩ | ⟨g, cap, cur, rfl, hg, hh, hn, hc, hs, ht⟩
  · exact .inl (List.eq_nil_of_length_eq_zero h0)
  · refine .inr ⟨g, cap, rfl, hn, ⟨cur, hh⟩, fun i hi => ?_⟩
    obtain ⟨cs, hcl, hM, hcell⟩ := Kd.S_get h z28 (i : Int) (by omega) (by omega)
    have e : L.getD (i : Int).toNat z28 = L[i] := by
      rw [Int.toNat_natCast, List.getD_eq_getElem?_getD, List.getElem?_eq_getElem hi]
      rfl
    rw [e] at hM
    obtain ⟨v0, rfl, hr⟩ := k28_openM hM
    have hc0 := hcell 0 v0 rfl
    rw [Int.toNat_natCast] at hc0
    obtain ⟨A, c, rfl, hlc, _⟩ := Kd.R_reads hr
    refine ⟨A, c, ?_, fun hp => ?_⟩
    · have : (⟨g, 0, none⟩ : Addr).add (i * k28.sz + 0) = ⟨g, i * 4, none⟩ := by
        rw [add_at]
        show (⟨g, 0 + (i * 4 + 0), none⟩ : Addr) = _
        simp
      rwa [this] at hc0
    · obtain ⟨inner2, hl2, ho2⟩ := Kd.R_own hr
      rcases ho2 with ⟨he, h0⟩ | ⟨b, cap2, cur2, he, hg2, hh2, hn2, hc2, hs2, ht2⟩
      · omega
      · injection he with he1 he2 he3
        refine ⟨b, cur2, he1, hg2, (Array.getElem?_eq_some_iff.1 hh2).1, hh2, ?_⟩
        have hk : k24.sz = 2 := rfl
        rw [hk] at hs2
        have := Nat.mul_le_mul_right 2 hn2
        omega

end Go.Proofs.Ytfmfncknpifjcaa.Ext

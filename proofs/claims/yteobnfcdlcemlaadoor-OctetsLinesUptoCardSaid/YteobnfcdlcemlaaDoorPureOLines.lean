/- Proved: OctetsLines' law (as told) answers true for every text of at most 1048576 octets. Plain Lean: no program's step. -/
import Derived.Test.YteobnfcdlcemlaaDoorP46
import Derived.Lib.IndexLaws
set_option linter.unusedVariables false
set_option linter.unusedSectionVars false
namespace Go.Proofs.YteobnfcdlcemlaaDoor.PureL
open Go.RowKit Go.Proofs.YteobnfcdlcemlaaDoor.P Go.Proofs.YteobnfcdlcemlaaDoor.Ext Go.Proofs.YteobnfcdlcemlaaDoorW.PrintWords Go.Proofs.YteobnfcdlcemlaaDoorW.PrintLast Go.Proofs.YteobnfcdlcemlaaDoorW.PrintMore

theorem w64 {x : Int} (h0 : -9223372036854775808 ≤ x) (h1 : x ≤ 9223372036854775807) : wrap64 x = x := by unfold wrap64; omega
def endL (l : List ByteArray) : List UInt8 := l.flatMap fun x => x.data.toList ++ [10]
theorem endL_cons (m : ByteArray) (M : List ByteArray) : endL (m :: M) = m.data.toList ++ 10 :: endL M := by
  unfold endL
  rw [List.flatMap_cons, List.append_assoc]
  rfl
theorem endL_snoc (M : List ByteArray) (m : ByteArray) : endL (M ++ [m]) = endL M ++ (m.data.toList ++ [10]) := by
  unfold endL
  rw [List.flatMap_append]
  simp

theorem idx_none (c : UInt8) (s : List UInt8) (h : c ∉ s) : Lib.indexByte s c = -1 := by
  have h1 := Lib.indexByte_ge s c
  rcases Int.lt_or_le (Lib.indexByte s c) 0 with h2 | h2
  · omega
  · obtain ⟨o, ho⟩ := Int.eq_ofNat_of_zero_le h2
    exact absurd (List.mem_iff_getElem?.2 ⟨o, (Lib.indexByte_some ho).1⟩) h
theorem ext_data (s : ByteArray) (i : Nat) : (s.extract i s.size).data.toList = s.data.toList.drop i := Lib.extract_to_end s i
theorem ext_take (s : ByteArray) (i : Nat) : (s.extract 0 i).data.toList = s.data.toList.take i := Lib.extract_from_zero s i

theorem lines_go : ∀ (k : Nat) (x : ByteArray) (L : List ByteArray), x.size + 1 < k → L.length + x.size ≤ 1000000000 →
    ∃ M, octets_Lines.l0 k x L = some (L ++ M) ∧ (endL M = x.data.toList ∨ endL M = x.data.toList ++ [10]) ∧ (∀ y ∈ M, (10 : UInt8) ∉ y.data.toList) ∧ M.length ≤ x.size
  | 0, x, L, h, _ => by omega
  | k + 1, x, L, h, hl => by
    have hxl : x.data.toList.length = x.size := by simp
    rw [octets_Lines.l0]
    by_cases he : x.toList = ([] : List UInt8)
    · rw [if_pos he]
      rw [Lib.toList_data] at he
      exact ⟨[], by rw [List.append_nil], .inl (by rw [he]; rfl), by simp, by simp⟩
    · rw [if_neg he]
      rw [Lib.toList_data] at he
      have hp : 0 < x.size := by
        have := List.length_pos_iff.2 he
        omega
      have hcut : strings_Cut.f x ⟨#[10]⟩ = some (cutAt x 10) := by
        unfold strings_Cut.f
        rw [if_pos (by omega)]
      rw [hcut, Option.bind_some, if_pos (by omega)]
      by_cases hm : (10 : UInt8) ∈ x.data.toList
      · obtain ⟨o, ho, hlt, hs, hno, _⟩ := one_at 10 _ (List.count_pos_iff.2 hm)
        have hc : cutAt x 10 = (x.extract 0 o, x.extract (o + 1) x.size, true) := by
          unfold cutAt
          rw [ho, if_pos (by omega), Int.toNat_natCast]
        rw [hc]
        dsimp only
        obtain ⟨M, e1, e2, e3, e4⟩ := lines_go k (x.extract (o + 1) x.size) (L ++ [x.extract 0 o]) (by rw [ByteArray.size_extract]; omega) (by rw [ByteArray.size_extract, List.length_append, List.length_singleton]; omega)
        refine ⟨x.extract 0 o :: M, by rw [e1, List.append_assoc]; rfl, ?_, ?_, ?_⟩
        · have hE : endL (x.extract 0 o :: M) = x.data.toList.take o ++ 10 :: endL M := by rw [endL_cons, ext_take]
          rw [hE]
          rw [ext_data] at e2
          rcases e2 with e2 | e2
          · left; rw [e2]; exact hs.symm
          · right
            rw [e2]
            conv => rhs; rw [hs]
            rw [List.append_assoc]
            rfl
        · intro y hy
          rcases List.mem_cons.1 hy with rfl | hy
          · rw [ext_take]; exact hno
          · exact e3 y hy
        · rw [ByteArray.size_extract] at e4
          rw [List.length_cons]
          omega
      · have hc : cutAt x 10 = (x, ⟨#[]⟩, false) := by
          unfold cutAt
          rw [idx_none 10 _ hm, if_neg (by omega)]
        rw [hc]
        dsimp only
        obtain ⟨k2, rfl⟩ : ∃ k2, k = k2 + 1 := ⟨k - 1, by omega⟩
        rw [octets_Lines.l0, if_pos (by rw [Lib.toList_data])]
        refine ⟨[x], rfl, .inr ?_, by simpa using hm, by simp; omega⟩
        unfold endL
        simp

def En (g : Nat → Option Bool) : Prop := ∃ k0, ∀ k, k0 ≤ k → g k = some true
theorem En.step {g h : Nat → Option Bool} (e : ∀ k, g (k + 1) = h k) (hh : En h) : En g := by
  obtain ⟨k0, h0⟩ := hh
  refine ⟨k0 + 1, fun k hk => ?_⟩
  obtain ⟨m, rfl⟩ : ∃ m, k = m + 1 := ⟨k - 1, by omega⟩
  rw [e]
  exact h0 m (by omega)

section
variable (x0 : ByteArray) (M : List ByteArray) (h0 : x0.size ≤ 1048576) (hE : endL M = x0.data.toList ∨ endL M = x0.data.toList ++ [10]) (hno : ∀ y ∈ M, (10 : UInt8) ∉ y.data.toList) (hlen : M.length ≤ 1048576)
include h0 hE hno hlen
theorem rd_M (i : Nat) (hi : i < M.length) : rdOf ByteArray.empty M (i : Int) = M[i] := by
  unfold rdOf
  rw [Int.toNat_natCast, List.getD_eq_getElem?_getD, List.getElem?_eq_getElem hi]
  rfl
theorem l1_ok (t : ByteArray) (i : Nat) (hi : i < M.length) (ht : t.size + (M[i]).size + 1 ≤ 10000000) (hnext : En (fun k => cowrielaw01_OctetsLines.l0 k x0 M ((t ++ M[i]) ++ ⟨#[10]⟩) ((i + 1 : Nat) : Int))) :
    ∀ (d j : Nat), j + d = (M[i]).size → En (fun k => cowrielaw01_OctetsLines.l1 k x0 M t (i : Int) (j : Int))
  | 0, j, hj => by
    have h1 := rd_M x0 M h0 hE hno hlen i hi
    have hs1 : (t ++ M[i]).size = t.size + (M[i]).size := ByteArray.size_append
    refine En.step (fun k => ?_) hnext
    rw [cowrielaw01_OctetsLines.l1, if_pos (by omega), if_pos (by omega), h1, if_neg (by omega), if_pos (by omega), if_pos (by omega), w64 (by omega) (by omega)]
    rfl
  | d + 1, j, hj => by
    have h1 := rd_M x0 M h0 hE hno hlen i hi
    refine En.step (fun k => ?_) (l1_ok t i hi ht hnext d (j + 1) (by omega))
    have hj2 : j < (M[i]).size := by omega
    have hbt : bt (M[i]) (j : Int) = ((M[i])[j]).toNat := by unfold bt; rw [dif_pos (by simpa using hj2)]; rfl
    have hmem : (M[i])[j] ∈ (M[i]).data.toList := by
      have : (M[i])[j] = (M[i]).data.toList[j]'(by simpa using hj2) := by simp; rfl
      rw [this]
      exact List.getElem_mem _
    have hne : ¬ bt (M[i]) (j : Int) = 10 := by
      intro e
      rw [hbt] at e
      have h10 : (M[i])[j] = 10 := UInt8.toNat_inj.1 (by show _ = 10; omega)
      rw [h10] at hmem
      exact hno _ (List.getElem_mem hi) hmem
    rw [cowrielaw01_OctetsLines.l1, if_pos (by omega), if_pos (by omega), h1, if_pos (by omega), if_pos (by omega), if_neg hne, w64 (by omega) (by omega)]
    rfl
theorem l0_ok : ∀ (d i : Nat) (t : ByteArray), i + d = M.length → t.data.toList = endL (M.take i) → En (fun k => cowrielaw01_OctetsLines.l0 k x0 M t (i : Int))
  | 0, i, t, hi, ht => by
    obtain rfl : i = M.length := by omega
    rw [List.take_length] at ht
    have hx : x0.data.toList.length = x0.size := by simp
    refine ⟨1, fun k hk => ?_⟩
    obtain ⟨m, rfl⟩ : ∃ m, k = m + 1 := ⟨k - 1, by omega⟩
    show cowrielaw01_OctetsLines.l0 (m + 1) x0 M t _ = _
    rw [cowrielaw01_OctetsLines.l0, if_neg (by omega), Lib.toList_data, Lib.toList_data, ht]
    rcases hE with e | e
    · rw [if_pos e]
    · rw [if_neg (by rw [e]; simp), if_pos (by omega), Lib.toList_data, ByteArray.data_append, Array.toList_append]
      congr 1
      rw [beq_iff_eq]
      exact e
  | d + 1, i, t, hi, ht => by
    have hiM : i < M.length := by omega
    have h1 := rd_M x0 M h0 hE hno hlen i hiM
    have htake : M.take (i + 1) = M.take i ++ [M[i]] := List.take_succ_eq_append_getElem hiM
    have hsum : endL M = endL (M.take i) ++ endL (M.drop i) := by
      conv => lhs; rw [← List.take_append_drop i M]
      unfold endL
      rw [List.flatMap_append]
    have hdrop : M.drop i = M[i] :: M.drop (i + 1) := List.drop_eq_getElem_cons hiM
    have hx : x0.data.toList.length = x0.size := by simp
    have htl : t.data.toList.length = t.size := by simp
    have hml : (M[i]).data.toList.length = (M[i]).size := by simp
    have hEl : (endL M).length ≤ x0.size + 1 := by
      rcases hE with e | e
      · rw [e]; omega
      · rw [e, List.length_append, List.length_singleton]; omega
    have hbnd : t.size + (M[i]).size + 1 ≤ 10000000 := by
      rw [hsum, hdrop, endL_cons, List.length_append, List.length_append, List.length_cons, ← ht] at hEl
      omega
    have hn : ((t ++ M[i]) ++ (⟨#[10]⟩ : ByteArray)).data.toList = endL (M.take (i + 1)) := by
      rw [htake, endL_snoc, ByteArray.data_append, Array.toList_append, ByteArray.data_append, Array.toList_append, ht, List.append_assoc]
    refine En.step (fun k => ?_) (l1_ok x0 M h0 hE hno hlen t i hiM hbnd (l0_ok d (i + 1) _ (by omega) hn) (M[i]).size 0 (by omega))
    rw [cowrielaw01_OctetsLines.l0, if_pos (by omega)]
    rfl
end

theorem OctetsLinesU (a0 : ByteArray) (h0 : a0.size ≤ 1048576) : ∃ k, cowrielaw01_OctetsLines.f k a0 = some true := by
  obtain ⟨M, e1, e2, e3, e4⟩ := lines_go (a0.size + 2) a0 [] (by omega) (by simp; omega)
  rw [List.nil_append] at e1
  obtain ⟨k0, hk0⟩ := l0_ok a0 M h0 e2 e3 (by omega) M.length 0 ⟨#[]⟩ (by omega) rfl
  have hmore : ∀ j, octets_Lines.l0 (a0.size + 2 + j) a0 [] = some M := by
    intro j
    induction j with
    | zero => exact e1
    | succ j ih => exact octets_Lines.mono_l (a0.size + 2 + j) a0 [] _ ih
  refine ⟨a0.size + 2 + k0, ?_⟩
  unfold cowrielaw01_OctetsLines.f octets_Lines.f
  show ((some true).bind _) = _
  rw [Option.bind_some, if_pos rfl, hmore k0, Option.bind_some]
  exact hk0 _ (by omega)

end Go.Proofs.YteobnfcdlcemlaaDoor.PureL

/- Proved: FieldsWords' law (as told) answers true for every text of at most 1048576 octets and every number. Plain Lean: no program's step. -/
import Derived.Test.YtfmfncknpifjcaaDoorP49
import Derived.Test.YtfmfncknpifjcaaDoorPureWords
set_option linter.unusedVariables false
set_option linter.unusedSectionVars false
namespace Go.Proofs.YtfmfncknpifjcaaDoor.PureW
open Go.RowKit Go.Proofs.YtfmfncknpifjcaaDoor.P Go.Proofs.YtfmfncknpifjcaaDoor.Ext Go.Proofs.YtfmfncknpifjcaaDoorW.PrintWords Go.Proofs.YtfmfncknpifjcaaDoorW.PrintLast Go.Proofs.YtfmfncknpifjcaaDoorW.PrintMore

theorem alive_true : cowrielaw08_alive.f = some true := by decide +kernel

theorem same_l0 (L : List ByteArray) (hL : L.length ≤ 1000000000) : ∀ (d k : Nat) (i : Nat), i + d = L.length → d < k → cowrieplain_SameTexts.l0 k L L (i : Int) = some true
  | d, 0, _, _, hk => by omega
  | 0, k + 1, i, hi, _ => by rw [cowrieplain_SameTexts.l0, if_neg (by omega)]
  | d + 1, k + 1, i, hi, hk => by
    rw [cowrieplain_SameTexts.l0, if_pos (by omega), if_pos (by omega), if_pos (by omega), if_pos rfl, w64 (by omega) (by omega)]
    exact same_l0 L hL d k (i + 1) (by omega) (by omega)
theorem same_self (L : List ByteArray) (hL : L.length ≤ 1000000000) (k : Nat) (hk : L.length < k) : cowrieplain_SameTexts.f k L L = some true := by
  unfold cowrieplain_SameTexts.f
  rw [if_pos rfl]
  exact same_l0 L hL L.length k 0 (by omega) hk

/-- True with rounds enough. -/
def En (g : Nat → Option Bool) : Prop := ∃ k0, ∀ k, k0 ≤ k → g k = some true
theorem En.step {g h : Nat → Option Bool} (e : ∀ k, g (k + 1) = h k) (hh : En h) : En g := by
  obtain ⟨k0, h0⟩ := hh
  refine ⟨k0 + 1, fun k hk => ?_⟩
  obtain ⟨m, rfl⟩ : ∃ m, k = m + 1 := ⟨k - 1, by omega⟩
  rw [e]
  exact h0 m (by omega)

theorem V_at : ∀ (ws : List (List UInt8)) (r : Int) (i : Nat) (w : List UInt8), V r ws → ws[i]? = some w → (i : Int) < r - 1 → ∀ c ∈ w, blk c = false
  | [], r, i, w, _, hw, _ => by simp at hw
  | a :: ws, r, 0, w, h, hw, hi => by
    obtain ⟨h1, h2, h3, h4⟩ := h
    rw [if_neg (by omega)] at h4
    simp at hw
    rw [← hw]
    exact h4.1
  | a :: ws, r, i + 1, w, h, hw, hi => by
    obtain ⟨h1, h2, h3, h4⟩ := h
    rw [if_neg (by omega)] at h4
    exact V_at ws (r - 1) i w h4.2 (by simpa using hw) (by omega)

/-- The first i words, a blank between. -/
def JB (l : List (List UInt8)) (i : Nat) : List UInt8 := J (l.take i)
theorem J_snoc : ∀ (l : List (List UInt8)) (w : List UInt8), l ≠ [] → J (l ++ [w]) = J l ++ 32 :: w
  | [], w, h => absurd rfl h
  | [a], w, _ => by simp [J]
  | a :: b :: l, w, _ => by
    have ih := J_snoc (b :: l) w (by simp)
    show J (a :: ((b :: l) ++ [w])) = _
    have h1 : J (a :: ((b :: l) ++ [w])) = a ++ 32 :: J ((b :: l) ++ [w]) := rfl
    rw [h1, ih]
    show _ = (a ++ 32 :: J (b :: l)) ++ 32 :: w
    simp
theorem J_len : ∀ l : List (List UInt8), (J l).length + 1 ≥ (l.map List.length).sum
  | [] => by simp [J]
  | [a] => by simp [J]
  | a :: b :: l => by
    have ih := J_len (b :: l)
    have h1 : J (a :: b :: l) = a ++ 32 :: J (b :: l) := rfl
    rw [h1, List.map_cons, List.sum_cons, List.length_append, List.length_cons]
    omega

theorem W_sum : ∀ (f : Nat) (r : Int) (s : List UInt8), (J (W f r s)).length ≤ s.length
  | 0, r, s => by simp [W, J]
  | f + 1, r, s => by
    rw [W]
    split
    · simp [J]
    · split
      · simp [J]
      · split
        · simp [J]
        · have ih := W_sum f (r - 1) ((s.dropWhile (fun c => !blk c)).dropWhile blk)
          have h0 := congrArg List.length (List.takeWhile_append_dropWhile (p := fun c => !blk c) (l := s))
          rw [List.length_append] at h0
          have h1 := drop_le blk (s.dropWhile (fun c => !blk c))
          cases hw : W f (r - 1) ((s.dropWhile (fun c => !blk c)).dropWhile blk) with
          | nil =>
            show (s.takeWhile _).length ≤ _
            omega
          | cons a l =>
            rw [hw] at ih
            have h3 : J (s.takeWhile (fun c => !blk c) :: a :: l) = s.takeWhile (fun c => !blk c) ++ 32 :: J (a :: l) := rfl
            rw [h3, List.length_append, List.length_cons]
            -- something is behind the word, and it begins with a blank
            have h4 : (s.dropWhile (fun c => !blk c)).dropWhile blk ≠ [] := by
              intro e
              rw [e, W_nil] at hw
              cases hw
            cases hd : s.dropWhile (fun c => !blk c) with
            | nil => rw [hd] at h4; exact absurd rfl h4
            | cons b t =>
              have hb := List.head?_dropWhile_not (fun c => !blk c) s
              rw [hd] at hb
              have hbb : blk b = true := by simpa using hb
              have h5 : ((s.dropWhile (fun c => !blk c)).dropWhile blk).length ≤ t.length := by
                rw [hd, List.dropWhile_cons, if_pos hbb]
                exact drop_le blk t
              rw [hd, List.length_cons] at h0
              omega

section
variable (N : Int) (L : List ByteArray) (ws : List (List UInt8)) (hLw : L.map (·.data.toList) = ws) (hV : V N ws) (hN0 : 0 ≤ N) (hN : N ≤ 8) (hlen : (L.length : Int) ≤ N) (hJ : (J ws).length ≤ 1048576)
include hLw hV hN0 hN hlen hJ
theorem at_L (i : Nat) (hi : i < L.length) : ws[i]? = some (rdOf ByteArray.empty L (i : Int)).data.toList ∧ rdOf ByteArray.empty L (i : Int) = L[i] := by
  have h1 : rdOf ByteArray.empty L (i : Int) = L[i] := by
    unfold rdOf
    rw [Int.toNat_natCast, List.getD_eq_getElem?_getD, List.getElem?_eq_getElem hi]
    rfl
  refine ⟨?_, h1⟩
  rw [h1, ← hLw, List.getElem?_map, List.getElem?_eq_getElem hi]
  rfl
theorem end_ok (t : ByteArray) (ht : t.data.toList = J ws) : En (fun k => cowrielaw08_FieldsWords.l0 k N L t (L.length : Int)) := by
  have hts : t.data.toList.length = t.size := by simp
  refine En.step (h := fun k => if (L.length : Int) ≤ N then ((fields_Words.f k t N).bind fun t139 => ((cowrieplain_SameTexts.f k t139 L).bind fun t142 => (some t142))) else (some false)) (fun k => by rw [cowrielaw08_FieldsWords.l0, if_neg (by omega)]) ?_
  refine ⟨2 * t.size + 20, fun k hk => ?_⟩
  dsimp only
  rw [if_pos hlen]
  obtain ⟨L2, e1, e2⟩ := words_spec t (by rw [← hts, ht]; omega) N (by omega) (by omega) k (by omega)
  have hwl : ws.length = L.length := by rw [← hLw, List.length_map]
  have hT := V_T ws N hV
  have hle : ws.length ≤ t.size + 1 := by
    have h8 : ws.length ≤ 8 := by omega
    rw [← hts, ht]
    have := J_len ws
    clear e1 e2 hT
    -- each word has an octet
    have h9 : ∀ (l : List (List UInt8)) (r : Int), V r l → l.length ≤ (l.map List.length).sum := by
      intro l
      induction l with
      | nil => intro r _; simp
      | cons a l ih =>
        intro r h
        obtain ⟨h1, ⟨c, u, hc, _⟩, h3, h4⟩ := h
        rw [List.map_cons, List.sum_cons, List.length_cons, hc, List.length_cons]
        split at h4
        · rw [h4]; simp
        · have := ih (r - 1) h4.2
          omega
    have := h9 ws N hV
    omega
  rw [ht, T_trim _ hT, W_J ws N (t.size + 1) hV hle] at e2
  have hEq : L2 = L := by
    have h1 : L2.map (·.data.toList) = L.map (·.data.toList) := by rw [e2, hLw]
    have hinj : ∀ (x y : List ByteArray), x.map (·.data.toList) = y.map (·.data.toList) → x = y := by
      intro x
      induction x with
      | nil => intro y h; cases y with
        | nil => rfl
        | cons b y => simp at h
      | cons a x ih => intro y h; cases y with
        | nil => simp at h
        | cons b y =>
          rw [List.map_cons, List.map_cons] at h
          injection h with h1 h2
          rw [ih y h2]
          congr 1
          apply ByteArray.ext
          exact Array.toList_inj.1 h1
    exact hinj L2 L h1
  rw [e1, Option.bind_some, hEq, same_self L (by omega) k (by omega)]
  rfl
theorem l1_ok (t : ByteArray) (i : Nat) (hi : i < L.length) (hnext : En (fun k => cowrielaw08_FieldsWords.l0 k N L t ((i + 1 : Nat) : Int))) : ∀ (d j : Nat), j + d = (L[i]).size → (L[i]).size ≤ 1048576 → En (fun k => cowrielaw08_FieldsWords.l1 k N L t (i : Int) (j : Int))
  | 0, j, hj, hs => by
    obtain ⟨_, h1⟩ := at_L N L ws hLw hV hN0 hN hlen hJ i hi
    refine En.step (fun k => ?_) hnext
    rw [cowrielaw08_FieldsWords.l1, if_pos (by omega), if_pos (by omega), h1, if_neg (by omega), w64 (by omega) (by omega)]
    rfl
  | d + 1, j, hj, hs => by
    obtain ⟨hw, h1⟩ := at_L N L ws hLw hV hN0 hN hlen hJ i hi
    refine En.step (fun k => ?_) (l1_ok t i hi hnext d (j + 1) (by omega) hs)
    rw [cowrielaw08_FieldsWords.l1, if_pos (by omega), if_pos (by omega), h1, if_pos (by omega), w64 (x := (j : Int) + 1) (by omega) (by omega), w64 (x := N - 1) (by omega) (by omega)]
    by_cases hlt : (i : Int) < N - 1
    · have hb := V_at ws N i _ hV hw hlt
      rw [h1] at hb
      have hj2 : j < (L[i]).size := by omega
      have hmem : (L[i])[j] ∈ (L[i]).data.toList := by
        have : (L[i])[j] = (L[i]).data.toList[j]'(by simpa using hj2) := by simp; rfl
        rw [this]
        exact List.getElem_mem _
      have hbj := hb _ hmem
      have hbt : bt (L[i]) (j : Int) = ((L[i])[j]).toNat := by unfold bt; rw [dif_pos (by simpa using hj2)]; rfl
      have hne32 : ¬ bt (L[i]) (j : Int) = 32 := by
        intro e
        rw [hbt] at e
        have : (L[i])[j] = 32 := UInt8.toNat_inj.1 (by show _ = 32; omega)
        rw [this] at hbj
        exact absurd hbj (by decide)
      have hne9 : ¬ bt (L[i]) (j : Int) = 9 := by
        intro e
        rw [hbt] at e
        have : (L[i])[j] = 9 := UInt8.toNat_inj.1 (by show _ = 9; omega)
        rw [this] at hbj
        exact absurd hbj (by decide)
      rw [if_pos hlt, if_pos (by omega), if_neg hne32, if_neg hne9]
      rfl
    · rw [if_neg hlt]
      rfl
theorem l0_ok : ∀ (d i : Nat) (t : ByteArray), i + d = L.length → t.data.toList = JB ws i → En (fun k => cowrielaw08_FieldsWords.l0 k N L t (i : Int))
  | 0, i, t, hi, ht => by
    have hwl : ws.length = L.length := by rw [← hLw, List.length_map]
    obtain rfl : i = L.length := by omega
    unfold JB at ht
    rw [← hwl, List.take_length] at ht
    exact end_ok N L ws hLw hV hN0 hN hlen hJ t ht
  | d + 1, i, t, hi, ht => by
    have hwl : ws.length = L.length := by rw [← hLw, List.length_map]
    have hiL : i < L.length := by omega
    obtain ⟨hw, h1⟩ := at_L N L ws hLw hV hN0 hN hlen hJ i hiL
    rw [h1] at hw
    have hts : t.data.toList.length = t.size := by simp
    have htake : ws.take (i + 1) = ws.take i ++ [(L[i]).data.toList] := by
      obtain ⟨hlt, hget⟩ := List.getElem?_eq_some_iff.1 hw
      rw [List.take_succ_eq_append_getElem hlt, hget]
    have hJle : ∀ m, m ≤ ws.length → (JB ws m).length ≤ (J ws).length := by
      intro m hm
      clear htake hw ht
      have : ∀ (l : List (List UInt8)) (m : Nat), (J (l.take m)).length ≤ (J l).length := by
        intro l
        induction l with
        | nil => intro m; simp [J]
        | cons a l ih =>
          intro m
          cases m with
          | zero => simp [J]
          | succ m =>
            rw [List.take_succ_cons]
            cases l with
            | nil => simp
            | cons b l =>
              have h2 : J (a :: b :: l) = a ++ 32 :: J (b :: l) := rfl
              have := ih m
              cases hm2 : (b :: l).take m with
              | nil => rw [h2]; simp [J]
              | cons x y =>
                rw [hm2] at this
                have h3 : J (a :: x :: y) = a ++ 32 :: J (x :: y) := rfl
                rw [h2, h3, List.length_append, List.length_append, List.length_cons, List.length_cons]
                omega
      exact this ws m
    have hjn : (JB ws (i + 1)).length ≤ 1048576 := Nat.le_trans (hJle (i + 1) (by omega)) hJ
    have hwsz : (L[i]).data.toList.length = (L[i]).size := by simp
    by_cases h0 : i = 0
    · subst h0
      have ht0 : t.data.toList = [] := by rw [ht]; rfl
      have hn : (t ++ L[0]).data.toList = JB ws (0 + 1) := by
        unfold JB
        rw [htake, ByteArray.data_append, Array.toList_append, ht0]
        rfl
      have hsz : (L[0]).size ≤ 1048576 := by
        have := congrArg List.length hn
        rw [ByteArray.data_append, Array.toList_append, List.length_append] at this
        omega
      have hnext := l0_ok d (0 + 1) (t ++ L[0]) (by omega) hn
      refine En.step (h := fun k => cowrielaw08_FieldsWords.j1 k N L t ((0 : Nat) : Int)) (fun k => by rw [cowrielaw08_FieldsWords.l0, if_pos (by omega), if_neg (by omega)]) ?_
      refine En.step (fun k => ?_) (l1_ok N L ws hLw hV hN0 hN hlen hJ (t ++ L[0]) 0 hiL hnext (L[0]).size 0 (by omega) hsz)
      rw [cowrielaw08_FieldsWords.j1, if_pos (by omega), if_pos (by omega), h1, if_pos (by have : t.size = 0 := by rw [← hts, ht0]; rfl
                                                                                           omega)]
      rfl
    · have hne : ws.take i ≠ [] := by
        intro e
        have h7 : (ws.take i).length = 0 := by rw [e]; rfl
        rw [List.length_take] at h7
        omega
      have hn : (t ++ ⟨#[32]⟩ ++ L[i]).data.toList = JB ws (i + 1) := by
        unfold JB at ht ⊢
        rw [htake, J_snoc _ _ hne, ByteArray.data_append, Array.toList_append, ByteArray.data_append, Array.toList_append, ht, List.append_assoc]
        rfl
      have hs1 : (t ++ (⟨#[32]⟩ : ByteArray)).size = t.size + 1 := by rw [ByteArray.size_append]; rfl
      have hs2 : (t ++ (⟨#[32]⟩ : ByteArray) ++ L[i]).size = t.size + 1 + (L[i]).size := by rw [ByteArray.size_append, hs1]
      have hs3 : ((t ++ (⟨#[32]⟩ : ByteArray) ++ L[i]).data.toList).length = (t ++ (⟨#[32]⟩ : ByteArray) ++ L[i]).size := Array.length_toList
      rw [hn] at hs3
      have hnext := l0_ok d (i + 1) (t ++ ⟨#[32]⟩ ++ L[i]) (by omega) hn
      refine En.step (h := fun k => cowrielaw08_FieldsWords.j1 k N L (t ++ (⟨#[32]⟩ : ByteArray)) (i : Int)) (fun k => by rw [cowrielaw08_FieldsWords.l0, if_pos (by omega), if_pos (by omega), if_pos (by omega)]) ?_
      refine En.step (fun k => ?_) (l1_ok N L ws hLw hV hN0 hN hlen hJ (t ++ ⟨#[32]⟩ ++ L[i]) i hiL hnext (L[i]).size 0 (by omega) (by omega))
      rw [cowrielaw08_FieldsWords.j1, if_pos (by omega), if_pos (by omega), h1, if_pos (by omega)]
      rfl
end

theorem nine (a : Int) : 0 ≤ Int.tmod (wrap64 ((Int.tmod a 9) + 9)) 9 ∧ Int.tmod (wrap64 ((Int.tmod a 9) + 9)) 9 ≤ 8 := by
  have h1 := Int.tmod_lt_of_pos a (show (0 : Int) < 9 by omega)
  have h2 := Int.lt_tmod_of_pos a (show (0 : Int) < 9 by omega)
  rw [w64 (by omega) (by omega)]
  have h3 := Int.tmod_lt_of_pos (Int.tmod a 9 + 9) (show (0 : Int) < 9 by omega)
  have h4 := Int.tmod_nonneg 9 (show 0 ≤ Int.tmod a 9 + 9 by omega)
  omega

theorem FieldsWordsU (a0 : ByteArray) (a1 : Int) (h0 : a0.size ≤ 1048576) : ∃ k, cowrielaw08_FieldsWords.f k a0 a1 = some true := by
  obtain ⟨n0, n1⟩ := nine a1
  have hsl : a0.data.toList.length = a0.size := by simp
  generalize hN : Int.tmod (wrap64 ((Int.tmod a1 9) + 9)) 9 = N at n0 n1
  obtain ⟨L0, _, e2⟩ := words_spec a0 (by omega) N (by omega) (by omega) (2 * a0.size + 3) (Nat.le_refl _)
  have hle : (Lib.trimS a0.data.toList [32, 9]).length ≤ a0.size := by
    unfold Lib.trimS Lib.trimRightS
    rw [tl_blk]
    have h1 := drop_le blk (a0.data.toList.reverse.dropWhile ([32, 9].contains ·)).reverse
    have h2 := drop_le ([32, 9].contains ·) a0.data.toList.reverse
    rw [List.length_reverse] at h1 h2
    omega
  have hV := W_V (a0.size + 1) N _ (trim_T a0.data.toList)
  have hwl := W_len (a0.size + 1) N (Lib.trimS a0.data.toList [32, 9]) n0
  have hsum := W_sum (a0.size + 1) N (Lib.trimS a0.data.toList [32, 9])
  obtain ⟨k0, hk0⟩ := l0_ok N L0 _ e2 hV n0 n1 (by rw [← e2, List.length_map] at hwl; exact hwl) (by omega) L0.length 0 ⟨#[]⟩ (by omega) rfl
  refine ⟨k0 + 2 * a0.size + 3, ?_⟩
  unfold cowrielaw08_FieldsWords.f
  rw [alive_true, Option.bind_some, if_pos rfl, hN]
  obtain ⟨L1, f1, f2⟩ := words_spec a0 (by omega) N (by omega) (by omega) (k0 + 2 * a0.size + 3) (by omega)
  have hEq : L1 = L0 := by
    have hinj : ∀ (x y : List ByteArray), x.map (·.data.toList) = y.map (·.data.toList) → x = y := by
      intro x
      induction x with
      | nil => intro y h; cases y with
        | nil => rfl
        | cons b y => simp at h
      | cons a x ih => intro y h; cases y with
        | nil => simp at h
        | cons b y =>
          rw [List.map_cons, List.map_cons] at h
          injection h with h1 h2
          rw [ih y h2]
          congr 1
          apply ByteArray.ext
          exact Array.toList_inj.1 h1
    exact hinj L1 L0 (by rw [f2, e2])
  rw [f1, Option.bind_some, hEq]
  exact hk0 _ (by omega)

end Go.Proofs.YtfmfncknpifjcaaDoor.PureW

/- Proved: PrintfTells' law (as told) answers true for every format and words whose bulk is at most 1048576. Plain Lean: no program's step. -/
import Derived.Test.YtagdkbncfcdhdaaDoorVR3
import Derived.Test.YtagdkbncfcdhdaaDoorVPureFormatR
set_option linter.unusedVariables false
namespace Go.Proofs.YtagdkbncfcdhdaaDoor.PureT
open Go.RowKit Go.Proofs.YtagdkbncfcdhdaaDoor.Ext Go.Proofs.YtagdkbncfcdhdaaDoorW.PrintWords
theorem alive_r : R.cowrielaw09_alive.f = some true := by decide +kernel
def tailJ : List ByteArray → List UInt8
  | [] => []
  | a :: l => 32 :: (a.data.toList ++ tailJ l)
theorem join_cons : ∀ (l : List ByteArray) (a : ByteArray), Lib.join ((a :: l).map (·.data.toList)) [32] = a.data.toList ++ tailJ l
  | [], a => by simp [Lib.join, List.intercalate, tailJ]
  | b :: l, a => by
    have := join_cons l b
    unfold Lib.join List.intercalate at this ⊢
    rw [tailJ, ← this]
    simp
theorem tailJ_len : ∀ l, (tailJ l).length = szs l + l.length
  | [] => rfl
  | a :: l => by
    have := tailJ_len l
    have h := PurePf.ba_size a
    rw [tailJ, szs, List.length_cons, List.length_append, List.length_cons]
    omega
theorem rd_at (l : List ByteArray) (i : Nat) (h : i < l.length) : rdOf ByteArray.empty l ((i : Nat) : Int) = l[i] := by
  unfold rdOf
  rw [Int.toNat_natCast, List.getD_eq_getElem?_getD, List.getElem?_eq_getElem h]
  rfl
theorem echo_loop (l : List ByteArray) (e : ByteArray) (he : e.size ≤ 1) (hl : l.length ≤ 100000000) : ∀ (d i : Nat) (out : ByteArray), d + i = l.length → 1 ≤ i → out.size + szs (l.drop i) + d ≤ 1000000000 → ∀ k, d + 1 ≤ k → R.cowrieref09_Echo.l0 k l e out i = some ((out ++ ⟨(tailJ (l.drop i)).toArray⟩) ++ e) := by
  intro d
  induction d with
  | zero =>
    intro i out hi h1 ho k hk
    obtain ⟨k, rfl⟩ : ∃ j, k = j + 1 := ⟨k - 1, by omega⟩
    rw [R.cowrieref09_Echo.l0, if_neg (by omega), if_pos (by omega), List.drop_of_length_le (by omega), show out ++ (⟨(tailJ []).toArray⟩ : ByteArray) = out from by apply ba_ext'; simp [tailJ]]
  | succ d ih =>
    intro i out hi h1 ho k hk
    obtain ⟨k, rfl⟩ : ∃ j, k = j + 1 := ⟨k - 1, by omega⟩
    have hil : i < l.length := by omega
    rw [List.drop_eq_getElem_cons hil, szs] at ho
    have hi2 := ih (i + 1) ((out ++ (⟨#[32]⟩ : ByteArray)) ++ l[i]) (by omega) (by omega) (by rw [ByteArray.size_append, ByteArray.size_append, one_size]; omega) k (by omega)
    rw [R.cowrieref09_Echo.l0, if_pos (by omega), if_pos (by omega), if_pos (by omega), if_pos (by omega), rd_at l i hil, if_pos (by rw [ByteArray.size_append, one_size]; omega), wr i (by omega), hi2, List.drop_eq_getElem_cons hil, tailJ]
    have e1 : ((out ++ (⟨#[32]⟩ : ByteArray)) ++ l[i]) ++ (⟨(tailJ (l.drop (i + 1))).toArray⟩ : ByteArray) = out ++ ⟨(32 :: (l[i].data.toList ++ tailJ (l.drop (i + 1)))).toArray⟩ := by
      apply ba_ext'
      simp
    rw [e1]
theorem echo_all (l : List ByteArray) (e : ByteArray) (he : e.size ≤ 1) (hl : l.length ≤ 10000000) (hs : szs l ≤ 10000000) (k : Nat) (hk : l.length + 1 ≤ k) : R.cowrieref09_Echo.l0 k l e ⟨#[]⟩ 0 = some (⟨(Lib.join (l.map (·.data.toList)) [32]).toArray⟩ ++ e) := by
  obtain ⟨k, rfl⟩ : ∃ j, k = j + 1 := ⟨k - 1, by omega⟩
  cases l with
  | nil =>
    rw [R.cowrieref09_Echo.l0, if_neg (by decide), if_pos (by show 0 + e.size ≤ _; omega)]
    rfl
  | cons a l =>
    rw [szs] at hs
    rw [List.length_cons] at hl hk
    have h := echo_loop (a :: l) e he (by rw [List.length_cons]; omega) l.length 1 a (by rw [List.length_cons]) (Nat.le_refl _) (by show a.size + szs l + l.length ≤ _; omega) k (by omega)
    have h0 : rdOf ByteArray.empty (a :: l) 0 = a := rfl
    rw [R.cowrieref09_Echo.l0, if_pos (by rw [List.length_cons]; omega), if_neg (by decide), if_pos (by decide), h0, if_pos (by show 0 + a.size ≤ _; omega), empty_app', show wrap64 ((0 : Int) + 1) = ((1 : Nat) : Int) from by unfold wrap64; omega, h, join_cons]
    have e1 : a ++ (⟨(tailJ ((a :: l).drop 1)).toArray⟩ : ByteArray) = ⟨(a.data.toList ++ tailJ l).toArray⟩ := by
      apply ba_ext'
      simp
    rw [e1]
theorem join_sz (l : List ByteArray) : (Lib.join (l.map (·.data.toList)) [32]).length ≤ szs l + l.length := by
  cases l with
  | nil => exact Nat.zero_le _
  | cons a l =>
    have h := PurePf.ba_size a
    have h2 := tailJ_len l
    rw [join_cons, List.length_append, h2]
    show _ ≤ a.size + szs l + (l.length + 1)
    omega
theorem echo_ref (l : List ByteArray) (hl : l.length ≤ 10000000) (hs : szs l ≤ 10000000) : ∃ r, ∀ k, l.length + 10 ≤ k → R.printf_Echo.f k l = some r ∧ R.cowrieref09_Echo.f k l = some r := by
  have hj : ∀ m : List ByteArray, m.length ≤ 10000000 → szs m ≤ 10000000 → strings_Join.f m (⟨#[32]⟩ : ByteArray) = some ⟨(Lib.join (m.map (·.data.toList)) [32]).toArray⟩ := by
    intro m h1 h2
    have := join_sz m
    unfold strings_Join.f
    show (if m.length ≤ 140737488355328 ∧ (Lib.join (m.map (·.data.toList)) [32]).length ≤ 140737488355328 then _ else _) = _
    rw [if_pos ⟨by omega, by omega⟩]
  have plain : ∀ k, l.length + 10 ≤ k → ∀ x : Bool, x = false → R.printf_Echo.j0 k l x = some (⟨(Lib.join (l.map (·.data.toList)) [32]).toArray⟩ ++ ⟨#[10]⟩) ∧ R.cowrieref09_Echo.j0 k l ⟨#[10]⟩ x = some (⟨(Lib.join (l.map (·.data.toList)) [32]).toArray⟩ ++ ⟨#[10]⟩) := by
    intro k hk x hx
    subst hx
    have hjs := join_sz l
    have hz : (⟨(Lib.join (l.map (·.data.toList)) [32]).toArray⟩ : ByteArray).size = (Lib.join (l.map (·.data.toList)) [32]).length := by simp [ByteArray.size]
    obtain ⟨k, rfl⟩ : ∃ j, k = j + 1 + 1 := ⟨k - 2, by omega⟩
    constructor
    · rw [R.printf_Echo.j0, if_neg (by decide), hj l hl hs, Option.bind_some, if_pos (by rw [hz]; omega)]
    · rw [R.cowrieref09_Echo.j0, if_neg (by decide), R.cowrieref09_Echo.j1, echo_all l _ (by decide) hl hs k (by omega)]
  by_cases hp : (l.length : Int) > 0
  · cases hb : ((rdOf ByteArray.empty l 0).toList == ([45, 110] : List UInt8)) with
    | false =>
      refine ⟨(⟨(Lib.join (l.map (·.data.toList)) [32]).toArray⟩ : ByteArray) ++ ⟨#[10]⟩, fun k hk => ?_⟩
      unfold R.printf_Echo.f R.cowrieref09_Echo.f
      rw [if_pos hp, if_pos hp, if_pos hp, if_pos hp, hb]
      exact plain k hk false rfl
    | true =>
      have hd1 : (l.drop 1).length ≤ 10000000 := by rw [List.length_drop]; omega
      have hd2 : szs (l.drop 1) ≤ 10000000 := by
        cases l with
        | nil => exact hs
        | cons a l => rw [szs] at hs; show szs l ≤ _; omega
      refine ⟨⟨(Lib.join ((l.drop 1).map (·.data.toList)) [32]).toArray⟩, fun k hk => ?_⟩
      unfold R.printf_Echo.f R.cowrieref09_Echo.f
      rw [if_pos hp, if_pos hp, if_pos hp, if_pos hp, hb]
      obtain ⟨k, rfl⟩ : ∃ j, k = j + 1 + 1 := ⟨k - 2, by omega⟩
      constructor
      · rw [R.printf_Echo.j0, if_pos rfl, if_pos (by omega), hj _ hd1 hd2]
        rfl
      · rw [R.cowrieref09_Echo.j0, if_pos rfl, if_pos (by omega), R.cowrieref09_Echo.j1, echo_all (l.drop 1) _ (by decide) hd1 hd2 k (by rw [List.length_drop]; omega)]
        congr 1
        apply ba_ext'
        simp
  · refine ⟨(⟨(Lib.join (l.map (·.data.toList)) [32]).toArray⟩ : ByteArray) ++ ⟨#[10]⟩, fun k hk => ?_⟩
    unfold R.printf_Echo.f R.cowrieref09_Echo.f
    rw [if_neg hp, if_neg hp]
    exact plain k hk false rfl
theorem szs_bulk : ∀ l : List ByteArray, szs l + l.length ≤ (l.map fun y0 => y0.size + 1).sum
  | [] => Nat.le_refl _
  | a :: l => by
    have := szs_bulk l
    rw [List.map_cons, List.sum_cons, szs, List.length_cons]
    omega
theorem PrintfTellsU (a0 : ByteArray) (l1 : List ByteArray) (hb : a0.size + l1.length + szs l1 ≤ 1048576) : ∃ k, R.cowrielaw09_PrintfTells.f k a0 l1 = some true := by
  have hm : ∀ a ∈ l1, a.size ≤ MB := by
    have : ∀ (l : List ByteArray) (a : ByteArray), a ∈ l → a.size ≤ szs l := by
      intro l
      induction l with
      | nil => intro a h; cases h
      | cons b l ih =>
        intro a h
        rw [szs]
        rcases List.mem_cons.1 h with rfl | h
        · omega
        · have := ih a h
          omega
    intro a ha
    have := this l1 a ha
    unfold MB
    omega
  obtain ⟨t, l', f, c, ok, a1, a2, a3, a4, a5, a6, a7, a8⟩ := does_all a0 (by omega) a0.size a0.size 0 [] (Nat.le_refl _) (by omega) (fun a h => by cases h)
  have hcc : ∀ k, 2 * a0.size + KB ≤ k → R.cowrieref09_Conversions.f k a0 = some (c : Int) := by
    intro k hk
    have := a8 k hk 0 (by omega)
    rw [Nat.zero_add] at this
    exact this
  have hpc : printf_Conversions.f a0 = some (c : Int) := by
    have h6 := a6 (a0.size + 1) (Nat.le_refl _) [] 0 0 (by show 0 + _ + _ + 0 ≤ _; omega) (by omega)
    rw [ext_zero] at h6
    unfold printf_Conversions.f
    rw [if_pos (by omega), show (⟨[], [], 0, 0⟩ : St) = ⟨[], [], 0, ((0 : Nat) : Int)⟩ from rfl, h6]
    show some (((0 + c : Nat)) : Int) = _
    rw [Nat.zero_add]
  have hmul : (l1.length + 1) * a0.size ≤ 550000000000 := by
    have h1 : l1.length + 1 + a0.size ≤ 1048577 := by omega
    generalize l1.length + 1 = p at h1
    generalize a0.size = q at h1
    rcases Nat.lt_or_ge p 524289 with h | h
    · have := Nat.mul_le_mul (show p ≤ 524288 by omega) (show q ≤ 1048577 by omega)
      omega
    · have := Nat.mul_le_mul (show p ≤ 1048577 by omega) (show q ≤ 524288 by omega)
      omega
  obtain ⟨r, hr1, hr2, hr3⟩ := rounds a0 (by omega) c hcc l1.length l1 [] 0 0 (Nat.le_refl _) hm (.inl rfl) (.inl rfl) (by omega) (by show 0 + _ + _ + _ ≤ _; omega)
  have hF : printf_Format.f a0 l1 = some (⟨r.out.toArray⟩, r.status) := by
    unfold printf_Format.f
    rw [if_pos (by omega), show (⟨[], l1, 0, 0⟩ : St) = ⟨[], l1, 0, ((0 : Nat) : Int)⟩ from rfl, hr2 (l1.length + 2) (by omega)]
    rfl
  obtain ⟨e, he⟩ := echo_ref l1 (by omega) (by omega)
  obtain ⟨s, hs1, hs2, hs3⟩ := escape_ref a0 (by omega)
  refine ⟨l1.length + 10 + 2 * a0.size + KB, ?_⟩
  obtain ⟨he1, he2⟩ := he (l1.length + 10 + 2 * a0.size + KB) (by omega)
  unfold R.cowrielaw09_PrintfTells.f
  rw [hF, Option.bind_some, show R.cowrieref09_Format.f (l1.length + 10 + 2 * a0.size + KB) a0 l1 = _ from hr3 _ (by omega), Option.bind_some, if_pos rfl, if_pos rfl, he1, Option.bind_some, he2, Option.bind_some, if_pos rfl, hs1, Option.bind_some, hs3 _ (by unfold KB; omega), Option.bind_some, if_pos rfl, hpc, Option.bind_some, hcc _ (by omega), Option.bind_some, if_pos rfl, alive_r]
  rfl
end Go.Proofs.YtagdkbncfcdhdaaDoor.PureT

/- Proved: fields.Words (as told) answers the words of a text, as a plain function over octets tells them; and what these words are. Plain Lean: no program's step. -/
import Derived.Test.YtfmfncknpifjcaaDoorP47
import Derived.Test.YtfmfncknpifjcaaDoorReplace
import Derived.Test.YtfmfncknpifjcaaDoorStrW
import Derived.Lib.SlTrimSet
set_option linter.unusedVariables false
namespace Go.Proofs.YtfmfncknpifjcaaDoor.PureW
open Go.RowKit Go.Proofs.YtfmfncknpifjcaaDoor.P Go.Proofs.YtfmfncknpifjcaaDoor.Ext Go.Proofs.YtfmfncknpifjcaaDoorW.PrintWords Go.Proofs.YtfmfncknpifjcaaDoorW.PrintLast Go.Proofs.YtfmfncknpifjcaaDoorW.PrintMore

theorem w64 {x : Int} (h0 : -9223372036854775808 ≤ x) (h1 : x ≤ 9223372036854775807) : wrap64 x = x := by unfold wrap64; omega
def blk (c : UInt8) : Bool := c == 32 || c == 9
/-- The words of a text without blanks ahead, at most r. -/
def W : Nat → Int → List UInt8 → List (List UInt8)
  | 0, _, _ => []
  | f + 1, r, s => if s = [] then [] else if r ≤ 0 then [] else if r = 1 then [s] else s.takeWhile (fun c => !blk c) :: W f (r - 1) ((s.dropWhile (fun c => !blk c)).dropWhile blk)

/-- A row of words as W makes it. -/
def V : Int → List (List UInt8) → Prop
  | _, [] => True
  | r, w :: ws => 1 ≤ r ∧ (∃ c t, w = c :: t ∧ blk c = false) ∧ (∃ t c, w = t ++ [c] ∧ blk c = false) ∧ (if r = 1 then ws = [] else (∀ c ∈ w, blk c = false) ∧ V (r - 1) ws)

def J : List (List UInt8) → List UInt8
  | [] => []
  | [w] => w
  | w :: ws => w ++ 32 :: J ws

/-- No blank ahead, none behind. -/
def T (s : List UInt8) : Prop := s = [] ∨ ((∃ c t, s = c :: t ∧ blk c = false) ∧ ∃ t c, s = t ++ [c] ∧ blk c = false)

theorem T_drop {s : List UInt8} (h : ∃ t c, s = t ++ [c] ∧ blk c = false) (u : List UInt8) (hu : ∃ v, s = v ++ u) : T (u.dropWhile blk) := by
  obtain ⟨v, hv⟩ := hu
  cases hd : u.dropWhile blk with
  | nil => exact .inl rfl
  | cons a l =>
    refine .inr ⟨⟨a, l, rfl, ?_⟩, ?_⟩
    · have := List.head?_dropWhile_not blk u
      rw [hd] at this
      simpa using this
    · obtain ⟨t, c, hs, hc⟩ := h
      obtain ⟨l2, y, hy⟩ : ∃ l2 y, a :: l = l2 ++ [y] := ⟨(a :: l).dropLast, (a :: l).getLast (by simp), (List.dropLast_concat_getLast (by simp)).symm⟩
      refine ⟨l2, y, hy, ?_⟩
      have h1 : u = u.takeWhile blk ++ (a :: l) := by rw [← hd, List.takeWhile_append_dropWhile]
      have h2 : t ++ [c] = (v ++ u.takeWhile blk ++ l2) ++ [y] := by rw [← hs, hv]; conv => lhs; rw [h1, hy]
                                                                     simp
      have h3 := List.append_inj_right' h2 rfl
      simp at h3
      rw [← h3]
      exact hc

theorem W_V : ∀ (f : Nat) (r : Int) (s : List UInt8), T s → V r (W f r s)
  | 0, _, _, _ => trivial
  | f + 1, r, s, h => by
    rw [W]
    by_cases h0 : s = []
    · rw [if_pos h0]; trivial
    · rw [if_neg h0]
      obtain ⟨⟨c, t, hc, hb⟩, ht⟩ := h.resolve_left h0
      by_cases h1 : r ≤ 0
      · rw [if_pos h1]; trivial
      · rw [if_neg h1]
        by_cases h2 : r = 1
        · rw [if_pos h2]
          exact ⟨by omega, ⟨c, t, hc, hb⟩, ht, by rw [if_pos h2]⟩
        · rw [if_neg h2]
          have hall : ∀ x ∈ s.takeWhile (fun c => !blk c), blk x = false := by
            intro x hx
            have := List.all_eq_true.1 (List.all_takeWhile (p := fun c => !blk c) (l := s)) x hx
            simpa using this
          have hhd : s.takeWhile (fun c => !blk c) = c :: t.takeWhile (fun c => !blk c) := by rw [hc, List.takeWhile_cons, if_pos (by simp [hb])]
          refine ⟨by omega, ⟨c, _, hhd, hb⟩, ?_, ?_⟩
          · refine ⟨(s.takeWhile (fun c => !blk c)).dropLast, (s.takeWhile (fun c => !blk c)).getLast (by rw [hhd]; simp), (List.dropLast_concat_getLast _).symm, hall _ (List.getLast_mem _)⟩
          · rw [if_neg h2]
            refine ⟨hall, W_V f (r - 1) _ (T_drop ht _ ⟨s.takeWhile (fun c => !blk c), (List.takeWhile_append_dropWhile).symm⟩)⟩

theorem V_head {r : Int} {w : List UInt8} {ws : List (List UInt8)} (h : V r (w :: ws)) : ∃ c t, J (w :: ws) = c :: t ∧ blk c = false := by
  obtain ⟨_, ⟨c, t, hc, hb⟩, _⟩ := h
  cases ws with
  | nil => exact ⟨c, t, hc, hb⟩
  | cons a l => exact ⟨c, t ++ 32 :: J (a :: l), by rw [J, hc]; rfl; simp, hb⟩
theorem V_last : ∀ (ws : List (List UInt8)) (r : Int) (w : List UInt8), V r (w :: ws) → ∃ t c, J (w :: ws) = t ++ [c] ∧ blk c = false
  | [], r, w, h => h.2.2.1
  | a :: l, r, w, h => by
    obtain ⟨h1, h2, h3, h4⟩ := h
    split at h4
    · cases h4
    · obtain ⟨t, c, e, hb⟩ := V_last l (r - 1) a h4.2
      refine ⟨w ++ 32 :: t, c, ?_, hb⟩
      rw [J, e]
      · simp
      · simp
theorem V_T (ws : List (List UInt8)) (r : Int) (h : V r ws) : T (J ws) := by
  cases ws with
  | nil => exact .inl rfl
  | cons w ws => exact .inr ⟨V_head h, V_last ws r w h⟩
theorem take_all (w : List UInt8) (h : ∀ c ∈ w, blk c = false) (u : List UInt8) : (w ++ 32 :: u).takeWhile (fun c => !blk c) = w ∧ (w ++ 32 :: u).dropWhile (fun c => !blk c) = 32 :: u := by
  induction w with
  | nil => exact ⟨rfl, rfl⟩
  | cons c w ih =>
    have hc := h c List.mem_cons_self
    obtain ⟨i1, i2⟩ := ih (fun x hx => h x (List.mem_cons_of_mem _ hx))
    rw [List.cons_append, List.takeWhile_cons, List.dropWhile_cons, if_pos (by simp [hc]), if_pos (by simp [hc]), i1, i2]
    exact ⟨rfl, rfl⟩
theorem take_only (w : List UInt8) (h : ∀ c ∈ w, blk c = false) : w.takeWhile (fun c => !blk c) = w ∧ w.dropWhile (fun c => !blk c) = [] := by
  induction w with
  | nil => exact ⟨rfl, rfl⟩
  | cons c w ih =>
    have hc := h c List.mem_cons_self
    obtain ⟨i1, i2⟩ := ih (fun x hx => h x (List.mem_cons_of_mem _ hx))
    rw [List.takeWhile_cons, List.dropWhile_cons, if_pos (by simp [hc]), if_pos (by simp [hc]), i1, i2]
    exact ⟨rfl, rfl⟩
theorem W_nil (f : Nat) (r : Int) : W f r [] = [] := by
  cases f with
  | zero => rfl
  | succ f => rw [W, if_pos rfl]
theorem W_J : ∀ (ws : List (List UInt8)) (r : Int) (f : Nat), V r ws → ws.length ≤ f → W f r (J ws) = ws
  | [], r, f, _, _ => W_nil f r
  | w :: ws, r, 0, _, hf => by simp at hf
  | w :: ws, r, f + 1, h, hf => by
    have hh := V_head h
    obtain ⟨h1, ⟨c, t, hc, hb⟩, h3, h4⟩ := h
    have hne : J (w :: ws) ≠ [] := by
      obtain ⟨a, b, e, _⟩ := hh
      rw [e]
      simp
    rw [W, if_neg hne, if_neg (by omega)]
    by_cases h2 : r = 1
    · rw [if_pos h2]
      rw [if_pos h2] at h4
      rw [h4]
      rfl
    · rw [if_neg h2]
      rw [if_neg h2] at h4
      cases ws with
      | nil =>
        obtain ⟨i1, i2⟩ := take_only w h4.1
        show w.takeWhile _ :: W f (r - 1) ((w.dropWhile _).dropWhile blk) = [w]
        rw [i1, i2]
        show w :: W f (r - 1) [] = [w]
        rw [W_nil]
      | cons a l =>
        obtain ⟨i1, i2⟩ := take_all w h4.1 (J (a :: l))
        have hJ : J (w :: a :: l) = w ++ 32 :: J (a :: l) := by rw [J]; simp
        rw [hJ, i1, i2]
        have hd : (32 :: J (a :: l)).dropWhile blk = J (a :: l) := by
          obtain ⟨x, y, e, hx⟩ := V_head h4.2
          rw [List.dropWhile_cons, if_pos (by decide), e, List.dropWhile_cons, if_neg (by simp [hx])]
        rw [hd, W_J (a :: l) (r - 1) f h4.2 (by simpa using hf)]
theorem W_len : ∀ (f : Nat) (r : Int) (s : List UInt8), 0 ≤ r → ((W f r s).length : Int) ≤ r
  | 0, r, s, h => by rw [W]; simpa using h
  | f + 1, r, s, h => by
    rw [W]
    split
    · simpa using h
    · split
      · simpa using h
      · split
        · simp; omega
        · have := W_len f (r - 1) ((s.dropWhile (fun c => !blk c)).dropWhile blk) (by omega)
          rw [List.length_cons]
          omega
theorem drop_le (p : UInt8 → Bool) : ∀ l : List UInt8, (l.dropWhile p).length ≤ l.length
  | [] => by simp
  | x :: l => by
    rw [List.dropWhile_cons]
    have := drop_le p l
    split
    · rw [List.length_cons]; omega
    · exact Nat.le_refl _

theorem tw_no (c : UInt8) : ∀ (a b : List UInt8), c ∉ a → (a ++ c :: b).takeWhile (fun x => x != c) = a
  | [], b, _ => by simp
  | x :: a, b, h => by
    have hx : (x != c) = true := bne_iff_ne.2 (fun e => h (by simp [e]))
    rw [List.cons_append, List.takeWhile_cons, if_pos hx, tw_no c a b (fun hm => h (List.mem_cons_of_mem _ hm))]
theorem tw_all (c : UInt8) : ∀ (a : List UInt8), c ∉ a → a.takeWhile (fun x => x != c) = a
  | [], _ => by simp
  | x :: a, h => by
    have hx : (x != c) = true := bne_iff_ne.2 (fun e => h (by simp [e]))
    rw [List.takeWhile_cons, if_pos hx, tw_all c a (fun hm => h (List.mem_cons_of_mem _ hm))]
theorem split_first (t : ByteArray) : ∃ p ps, Lib.splitB ⟨#[32]⟩ 0 (Lib.countB t ⟨#[32]⟩) t = p :: ps ∧ p.size = (t.data.toList.takeWhile (fun x => x != 32)).length := by
  have hl : t.data.toList.length = t.size := by simp
  have hc : Lib.countB t ⟨#[32]⟩ = t.data.toList.count 32 := Lib.count_one 32 t.data.toList
  rw [hc]
  cases h : t.data.toList.count 32 with
  | zero =>
    refine ⟨t, [], rfl, ?_⟩
    rw [tw_all 32 _ (List.count_eq_zero.1 h), hl]
  | succ k =>
    obtain ⟨o, ho, hlt, hs, hno, _⟩ := one_at 32 t.data.toList (by omega)
    have hix : Lib.indexB t ⟨#[32]⟩ = (o : Int) := by
      show Lib.index t.data.toList [32] = _
      rw [Lib.index_one, ho]
    rw [Lib.splitB_hit _ _ _ _ o hix]
    refine ⟨_, _, rfl, ?_⟩
    have h2 : t.data.toList.takeWhile (fun x => x != 32) = t.data.toList.take o := by
      conv => lhs; rw [hs]
      exact tw_no 32 _ _ hno
    rw [h2, ByteArray.size_extract, List.length_take]
    omega
theorem rep_tw : ∀ s : List UInt8, ((repL 9 [32] s).takeWhile (fun x => x != 32)).length = (s.takeWhile (fun c => !blk c)).length
  | [] => rfl
  | x :: s => by
    have ih := rep_tw s
    unfold repL at ih ⊢
    rw [List.flatMap_cons, List.takeWhile_cons]
    by_cases h9 : x = 9
    · subst h9
      rw [if_pos rfl]
      rfl
    · rw [if_neg h9, List.singleton_append, List.takeWhile_cons]
      by_cases h32 : x = 32
      · subst h32
        rfl
      · have h1 : (x != 32) = true := bne_iff_ne.2 h32
        have h2 : (!blk x) = true := by simp [blk, h9, h32]
        rw [if_pos h1, if_pos h2, List.length_cons, List.length_cons, ih]
theorem tl_blk (l : List UInt8) : Lib.trimLeftS l [32, 9] = l.dropWhile blk := by
  unfold Lib.trimLeftS
  congr 1
  funext c
  simp [blk, List.contains, List.elem, Bool.or_comm]
  cases h1 : (c == 32) <;> cases h2 : (c == 9) <;> simp_all
theorem ext_data (s : ByteArray) (i : Nat) : (s.extract i s.size).data.toList = s.data.toList.drop i := Lib.extract_to_end s i
theorem ext_take (s : ByteArray) (i : Nat) : (s.extract 0 i).data.toList = s.data.toList.take i := Lib.extract_from_zero s i
theorem take_len (s : List UInt8) (p : UInt8 → Bool) : s.take (s.takeWhile p).length = s.takeWhile p ∧ s.drop (s.takeWhile p).length = s.dropWhile p := by
  have h := List.takeWhile_append_dropWhile (p := p) (l := s)
  generalize s.takeWhile p = A at h ⊢
  generalize s.dropWhile p = B at h ⊢
  subst h
  simp

theorem words_l0 (n : Int) (hn0 : -9223372036854775808 ≤ n) (hn1 : n ≤ 9223372036854775807) : ∀ (d k f : Nat) (x0 : ByteArray) (x5 : List ByteArray), x0.size ≤ d → 2 * d + 3 ≤ k → d < f → T x0.data.toList → x5.length + d ≤ 10000000 →
    ∃ L, fields_Words.l0 k x0 n x5 = some (x5 ++ L) ∧ L.map (·.data.toList) = W f (n - x5.length) x0.data.toList
  | d, 0, _, _, _, _, hk, _, _, _ => by omega
  | d, 1, _, _, _, _, hk, _, _, _ => by omega
  | d, k + 2, 0, _, _, _, _, hf, _, _ => by omega
  | d, k + 2, f + 1, x0, x5, hd, hk, hf, hT, hl => by
    have hxl : x0.data.toList.length = x0.size := by simp
    rw [fields_Words.l0]
    by_cases he : x0.toList = ([] : List UInt8)
    · rw [if_pos he, fields_Words.j1, if_neg (by simp)]
      rw [Lib.toList_data] at he
      exact ⟨[], by rw [List.append_nil], by rw [W, if_pos he]; rfl⟩
    · rw [if_neg he]
      rw [Lib.toList_data] at he
      by_cases hlt : (x5.length : Int) < n
      · rw [decide_eq_true hlt, fields_Words.j1, if_pos rfl]
        have hc9 : x0.data.toList.count 9 ≤ x0.data.toList.length := List.count_le_length
        have hra : strings_ReplaceAll.f x0 ⟨#[9]⟩ ⟨#[32]⟩ = some ⟨(repL 9 [32] x0.data.toList).toArray⟩ := by
          unfold strings_ReplaceAll.f
          show (if _ then _ else _) = _
          rw [if_pos ⟨by intro e; have := congrArg (fun b : ByteArray => b.data.toList) e; simp at this, Nat.le_refl 1, by show _ + _ * 1 ≤ _; omega⟩]
        rw [hra, Option.bind_some]
        have hrl := repL_len 9 [32] x0.data.toList
        have hrs : (⟨(repL 9 [32] x0.data.toList).toArray⟩ : ByteArray).size = x0.size := by
          show (repL 9 [32] x0.data.toList).toArray.size = _
          rw [List.size_toArray, hrl, List.length_singleton]
          omega
        obtain ⟨p, ps, hsp, hps⟩ := split_first ⟨(repL 9 [32] x0.data.toList).toArray⟩
        have hsf : strings_Split.f ⟨(repL 9 [32] x0.data.toList).toArray⟩ ⟨#[32]⟩ = some (p :: ps) := by
          unfold strings_Split.f
          rw [if_pos ⟨by rw [hrs]; omega, rfl⟩, hsp]
        have hpsz : p.size = (x0.data.toList.takeWhile (fun c => !blk c)).length := by rw [hps]; exact rep_tw _
        have hrd : rdOf ByteArray.empty (p :: ps) 0 = p := rfl
        obtain ⟨htk, htd⟩ := take_len x0.data.toList (fun c => !blk c)
        have hple : p.size ≤ x0.size := by
          have h1 := congrArg List.length (List.takeWhile_append_dropWhile (p := fun c => !blk c) (l := x0.data.toList))
          rw [List.length_append] at h1
          omega
        rw [hsf, Option.bind_some, if_pos (by simp), hrd]
        by_cases hall : (p.size : Int) = x0.size
        · rw [if_pos hall, if_pos (by omega)]
          refine ⟨[x0], rfl, ?_⟩
          have hw : x0.data.toList.takeWhile (fun c => !blk c) = x0.data.toList := by
            rw [← htk, ← hpsz, List.take_of_length_le (by omega)]
          have hdw : x0.data.toList.dropWhile (fun c => !blk c) = [] := by
            rw [← htd, ← hpsz, List.drop_of_length_le (by omega)]
          rw [W, if_neg he, if_neg (by omega), hw, hdw]
          split
          · rfl
          · show [x0.data.toList] = x0.data.toList :: W f _ []
            rw [W_nil]
        · rw [if_neg hall, w64 (by omega) (by omega)]
          by_cases h1 : (x5.length : Int) = n - 1
          · rw [if_pos h1, if_pos (by omega)]
            exact ⟨[x0], rfl, by rw [W, if_neg he, if_neg (by omega), if_pos (by omega)]; rfl⟩
          · rw [if_neg h1, if_pos (by omega), if_pos (by omega), if_pos (by omega), Int.toNat_natCast]
            obtain ⟨⟨c, t, hc, hb⟩, hlast⟩ := hT.resolve_left he
            have hp0 : 0 < p.size := by
              rw [hpsz, hc, List.takeWhile_cons, if_pos (by simp [hb])]
              simp
            have htl : strings_TrimLeft.f (x0.extract p.size x0.size) ⟨#[32, 9]⟩ = some ⟨((x0.data.toList.dropWhile (fun c => !blk c)).dropWhile blk).toArray⟩ := by
              unfold strings_TrimLeft.f
              rw [if_pos ⟨by decide, by decide⟩, ext_data, hpsz, htd]
              show some (⟨(Lib.trimLeftS _ [32, 9]).toArray⟩ : ByteArray) = _
              rw [tl_blk]
            rw [htl, Option.bind_some]
            have hdl := drop_le blk (x0.data.toList.dropWhile (fun c => !blk c))
            have hdl2 : (x0.data.toList.dropWhile (fun c => !blk c)).length = x0.size - p.size := by rw [← htd, List.length_drop, hxl, hpsz]
            have hsz2 : (⟨((x0.data.toList.dropWhile (fun c => !blk c)).dropWhile blk).toArray⟩ : ByteArray).size ≤ x0.size - p.size := by
              show (((x0.data.toList.dropWhile (fun c => !blk c)).dropWhile blk).toArray).size ≤ _
              rw [List.size_toArray]
              omega
            have hT2 : T ((x0.data.toList.dropWhile (fun c => !blk c)).dropWhile blk) := T_drop hlast (x0.data.toList.dropWhile (fun c => !blk c)) ⟨x0.data.toList.takeWhile (fun c => !blk c), (List.takeWhile_append_dropWhile).symm⟩
            obtain ⟨d2, rfl⟩ : ∃ d2, d = d2 + 1 := ⟨d - 1, by omega⟩
            obtain ⟨L, e1, e2⟩ := words_l0 n hn0 hn1 d2 k f ⟨((x0.data.toList.dropWhile (fun c => !blk c)).dropWhile blk).toArray⟩ (x5 ++ [x0.extract 0 p.size]) (by omega) (by omega) (by omega)
              hT2 (by rw [List.length_append, List.length_singleton]; omega)
            refine ⟨x0.extract 0 p.size :: L, by rw [e1, List.append_assoc]; rfl, ?_⟩
            rw [W, if_neg he, if_neg (by omega), if_neg (by omega), List.map_cons, ext_take, hpsz, htk, e2, List.length_append, List.length_singleton]
            congr 2
            omega
      · rw [decide_eq_false hlt, fields_Words.j1, if_neg (by simp)]
        exact ⟨[], by rw [List.append_nil], by rw [W, if_neg he, if_pos (by omega)]; rfl⟩

theorem trim_T (l : List UInt8) : T (Lib.trimS l [32, 9]) := by
  have hcb : ∀ c : UInt8, [32, 9].contains c = blk c := by
    intro c
    cases h1 : (c == 32) <;> cases h2 : (c == 9) <;> simp_all [blk]
  unfold Lib.trimS Lib.trimRightS
  rw [tl_blk]
  cases hv : l.reverse.dropWhile ([32, 9].contains ·) with
  | nil => exact .inl rfl
  | cons a v =>
    have ha := List.head?_dropWhile_not ([32, 9].contains ·) l.reverse
    rw [hv] at ha
    have hb : blk a = false := by
      rw [← hcb]
      simpa using ha
    exact T_drop ⟨v.reverse, a, by simp, hb⟩ _ ⟨[], rfl⟩
theorem T_trim (l : List UInt8) (h : T l) : Lib.trimS l [32, 9] = l := by
  have hcb : ∀ c : UInt8, [32, 9].contains c = blk c := by
    intro c
    cases h1 : (c == 32) <;> cases h2 : (c == 9) <;> simp_all [blk]
  have hf : (fun c : UInt8 => [32, 9].contains c) = blk := funext hcb
  unfold Lib.trimS Lib.trimRightS
  rw [tl_blk, hf]
  rcases h with rfl | ⟨⟨c, t, hc, hb⟩, ⟨t2, c2, hc2, hb2⟩⟩
  · rfl
  · have h1 : l.reverse.dropWhile blk = l.reverse := by
      rw [hc2, List.reverse_append]
      show (c2 :: t2.reverse).dropWhile blk = c2 :: t2.reverse
      rw [List.dropWhile_cons, if_neg (by simp [hb2])]
    rw [h1, List.reverse_reverse, hc, List.dropWhile_cons, if_neg (by simp [hb])]

/-- What fields.Words answers. -/
theorem words_spec (s : ByteArray) (hs : s.size ≤ 1100000) (n : Int) (hn0 : -9223372036854775808 ≤ n) (hn1 : n ≤ 9223372036854775807) (k : Nat) (hk : 2 * s.size + 3 ≤ k) :
    ∃ L, fields_Words.f k s n = some L ∧ L.map (·.data.toList) = W (s.size + 1) n (Lib.trimS s.data.toList [32, 9]) := by
  have hsl : s.data.toList.length = s.size := by simp
  unfold fields_Words.f
  have ht : strings_Trim.f s ⟨#[32, 9]⟩ = some ⟨(Lib.trimS s.data.toList [32, 9]).toArray⟩ := by
    unfold strings_Trim.f
    rw [if_pos ⟨by omega, by decide, by decide⟩]
  have hle : (Lib.trimS s.data.toList [32, 9]).length ≤ s.size := by
    unfold Lib.trimS Lib.trimRightS
    rw [tl_blk]
    have h1 := drop_le blk (s.data.toList.reverse.dropWhile ([32, 9].contains ·)).reverse
    have h2 := drop_le ([32, 9].contains ·) s.data.toList.reverse
    rw [List.length_reverse] at h1 h2
    omega
  rw [ht, Option.bind_some]
  obtain ⟨L, e1, e2⟩ := words_l0 n hn0 hn1 s.size k (s.size + 1) ⟨(Lib.trimS s.data.toList [32, 9]).toArray⟩ [] (by show (Lib.trimS s.data.toList [32, 9]).toArray.size ≤ _; rw [List.size_toArray]; exact hle) hk (by omega) (trim_T _) (by simp; omega)
  rw [List.nil_append] at e1
  refine ⟨L, e1, ?_⟩
  rw [e2]
  simp

end Go.Proofs.YtfmfncknpifjcaaDoor.PureW

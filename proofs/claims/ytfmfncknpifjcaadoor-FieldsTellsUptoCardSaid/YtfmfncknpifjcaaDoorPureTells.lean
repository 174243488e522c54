/- Proved: FieldsTells' law (as told) answers true for inputs whose bulk is at most 1048576. Plain Lean: no program's step. -/
import Derived.Test.YtfmfncknpifjcaaDoorP64
import Derived.Test.YtfmfncknpifjcaaDoorTellsLib
import Derived.Test.YtfmfncknpifjcaaDoorPureWords
set_option linter.unusedVariables false
namespace Go.Proofs.YtfmfncknpifjcaaDoor.PureT
open Go.RowKit Go.Proofs.YtfmfncknpifjcaaDoor.P Go.Proofs.YtfmfncknpifjcaaDoor.Ext Go.Proofs.YtfmfncknpifjcaaDoorW.PrintWords Go.Proofs.YtfmfncknpifjcaaDoorW.PrintLast Go.Proofs.YtfmfncknpifjcaaDoorW.PrintMore Go.Proofs.YtfmfncknpifjcaaDoor.PureF
open Go.Proofs.YtfmfncknpifjcaaDoor.PureW (W T w64 trim_T words_spec tl_blk drop_le T_drop ext_data ext_take take_len blk)

/-- Enough rounds tell r. -/
def Ev {α : Type} (g : Nat → Option α) (r : α) : Prop := ∃ k0, ∀ k, k0 ≤ k → g k = some r
theorem Ev.step {α : Type} {g h : Nat → Option α} {r : α} (e : ∀ k, g (k + 1) = h k) (hh : Ev h r) : Ev g r := by
  obtain ⟨k0, h0⟩ := hh
  refine ⟨k0 + 1, fun k hk => ?_⟩
  obtain ⟨m, rfl⟩ : ∃ m, k = m + 1 := ⟨k - 1, by omega⟩
  rw [e]
  exact h0 m (by omega)
theorem Ev.bind {α β : Type} {g : Nat → Option α} {a : α} {f : Nat → α → Option β} {r : β} (hg : Ev g a) (hf : Ev (fun k => f k a) r) : Ev (fun k => (g k).bind (f k)) r := by
  obtain ⟨k0, h0⟩ := hg
  obtain ⟨k1, h1⟩ := hf
  refine ⟨k0 + k1, fun k hk => ?_⟩
  show (g k).bind (f k) = some r
  rw [h0 k (by omega), Option.bind_some]
  exact h1 k (by omega)
theorem Ev.const {α : Type} (r : α) : Ev (fun _ => some r) r := ⟨0, fun _ _ => rfl⟩
theorem Ev.of_eq {α : Type} {g h : Nat → Option α} {r : α} (e : ∀ k, g k = h k) (hh : Ev h r) : Ev g r := by
  obtain ⟨k0, h0⟩ := hh
  exact ⟨k0, fun k hk => by rw [e]; exact h0 k hk⟩

/-! ### the page's Trim -/
def blkI (v : Int) : Prop := v = 32 ∨ v = 9
theorem bt_list (s : ByteArray) (i : Nat) (h : i < s.data.toList.length) : bt s (i : Int) = ((s.data.toList[i]).toNat : Int) := by
  have hl : s.data.toList.length = s.size := by simp
  have hq : i < s.size := by omega
  have h1 : bt s (i : Int) = ((s[i]).toNat : Int) := by unfold bt; rw [dif_pos (by simpa using hq)]; rfl
  have h3 : s[i] = s.data.toList[i] := by simp; rfl
  rw [h1, h3]
theorem blk_or (c : UInt8) : blk c = true ↔ ((c.toNat : Int) = 32 ∨ (c.toNat : Int) = 9) := by
  unfold blk
  rw [Bool.or_eq_true, beq_iff_eq, beq_iff_eq]
  constructor
  · rintro (rfl | rfl)
    · exact .inl rfl
    · exact .inr rfl
  · rintro (h | h)
    · exact .inl (UInt8.toNat_inj.1 (by show _ = 32; omega))
    · exact .inr (UInt8.toNat_inj.1 (by show _ = 9; omega))
/-- Without blanks behind. -/
def trimR (l : List UInt8) : List UInt8 := (l.reverse.dropWhile blk).reverse
theorem trimR_snoc (l : List UInt8) (c : UInt8) : trimR (l ++ [c]) = if blk c = true then trimR l else l ++ [c] := by
  unfold trimR
  rw [List.reverse_append]
  show ((c :: l.reverse).dropWhile blk).reverse = _
  rw [List.dropWhile_cons]
  split
  · rfl
  · simp
theorem ba_of (l : List UInt8) (s : ByteArray) (h : s.data.toList = l) : s = ⟨l.toArray⟩ := by
  apply ByteArray.ext
  apply Array.toList_inj.1
  rw [h]
theorem trim_l1 : ∀ (d : Nat) (s : ByteArray), s.size = d → d ≤ 1000000000 → Ev (fun k => cowrieref04_Trim.l1 k s) ⟨(trimR s.data.toList).toArray⟩
  | 0, s, hs, _ => by
    have hl : s.data.toList.length = s.size := by simp
    have h0 : s.data.toList = [] := List.eq_nil_of_length_eq_zero (by omega)
    refine Ev.step (h := fun _ => some s) (fun k => by rw [cowrieref04_Trim.l1, if_neg (by omega)]) ?_
    rw [h0]
    have : s = ⟨(trimR []).toArray⟩ := ba_of [] s h0
    rw [← this]
    exact Ev.const s
  | d + 1, s, hs, hd => by
    have hl : s.data.toList.length = s.size := by simp
    have hne : s.data.toList ≠ [] := by intro e; rw [e] at hl; simp at hl; omega
    obtain ⟨t, c, htc⟩ : ∃ t c, s.data.toList = t ++ [c] := ⟨s.data.toList.dropLast, s.data.toList.getLast hne, (List.dropLast_concat_getLast hne).symm⟩
    have htl : t.length = d := by
      have := congrArg List.length htc
      rw [List.length_append, List.length_singleton] at this
      omega
    have hb : bt s (d : Int) = (c.toNat : Int) := by
      rw [bt_list s d (by omega)]
      congr 2
      have h1 : s.data.toList[d]? = some c := by rw [htc, List.getElem?_append_right (by omega), htl, Nat.sub_self]; rfl
      rw [List.getElem?_eq_getElem (by omega)] at h1
      exact Option.some.inj h1
    have hx : (s.extract 0 d).data.toList = t := by rw [ext_take, htc, ← htl, List.take_left]
    have hxs : (s.extract 0 d).size = d := by rw [ByteArray.size_extract]; omega
    have ih := trim_l1 d (s.extract 0 d) hxs (by omega)
    rw [hx] at ih
    rw [htc, trimR_snoc]
    have hw : wrap64 ((s.size : Int) - 1) = (d : Int) := by rw [w64 (by omega) (by omega)]; omega
    cases hc : blk c with
    | true =>
      rw [if_pos rfl]
      refine Ev.step (fun k => ?_) ih
      rw [cowrieref04_Trim.l1, if_pos (by omega), hw, if_pos (by omega), if_pos (by omega), hb]
      rcases (blk_or c).1 hc with h | h
      · rw [if_pos h, if_pos (by omega), Int.toNat_natCast]
      · rw [if_neg (by omega), if_pos h, if_pos (by omega), Int.toNat_natCast]
    | false =>
      rw [if_neg (by simp)]
      have hs2 : s = ⟨(t ++ [c]).toArray⟩ := ba_of _ s htc
      refine Ev.step (h := fun _ => some s) (fun k => ?_) (by rw [← hs2]; exact Ev.const s)
      have hn : ¬ ((c.toNat : Int) = 32 ∨ (c.toNat : Int) = 9) := fun h => by rw [(blk_or c).2 h] at hc; cases hc
      rw [cowrieref04_Trim.l1, if_pos (by omega), hw, if_pos (by omega), if_pos (by omega), hb, if_neg (fun h => hn (.inl h)), if_neg (fun h => hn (.inr h))]
theorem trim_l0 : ∀ (d : Nat) (s : ByteArray), s.size = d → d ≤ 1000000000 → Ev (fun k => cowrieref04_Trim.l0 k s) ⟨(trimR (s.data.toList.dropWhile blk)).toArray⟩
  | 0, s, hs, _ => by
    have hl : s.data.toList.length = s.size := by simp
    have h0 : s.data.toList = [] := List.eq_nil_of_length_eq_zero (by omega)
    have h1 := trim_l1 0 s hs (by omega)
    refine Ev.step (h := fun k => cowrieref04_Trim.j1 k s) (fun k => by rw [cowrieref04_Trim.l0, if_neg (by omega)]) ?_
    refine Ev.step (h := fun k => cowrieref04_Trim.l1 k s) (fun k => by rw [cowrieref04_Trim.j1]) ?_
    rw [h0] at h1 ⊢
    exact h1
  | d + 1, s, hs, hd => by
    have hl : s.data.toList.length = s.size := by simp
    cases hc : s.data.toList with
    | nil => rw [hc] at hl; simp at hl; omega
    | cons c u =>
      have hb : bt s 0 = (c.toNat : Int) := by
        have h1 := bt_list s 0 (by omega)
        rw [show ((0 : Nat) : Int) = 0 from rfl] at h1
        rw [h1]
        congr 2
        have h2 : s.data.toList[0]? = some c := by rw [hc]; rfl
        rw [List.getElem?_eq_getElem (by omega)] at h2
        exact Option.some.inj h2
      have hx : (s.extract 1 s.size).data.toList = u := by rw [ext_data, hc]; rfl
      have hxs : (s.extract 1 s.size).size = d := by rw [ByteArray.size_extract]; omega
      rw [List.dropWhile_cons]
      cases hbk : blk c with
      | true =>
        rw [if_pos rfl]
        have ih := trim_l0 d (s.extract 1 s.size) hxs (by omega)
        rw [hx] at ih
        refine Ev.step (fun k => ?_) ih
        rw [cowrieref04_Trim.l0, if_pos (by omega), if_pos (by omega), hb]
        rcases (blk_or c).1 hbk with h | h
        · rw [if_pos h, if_pos (by omega)]
        · rw [if_neg (by omega), if_pos h, if_pos (by omega)]
      | false =>
        rw [if_neg (by simp)]
        have hn : ¬ ((c.toNat : Int) = 32 ∨ (c.toNat : Int) = 9) := fun h => by rw [(blk_or c).2 h] at hbk; cases hbk
        have h1 := trim_l1 (d + 1) s hs hd
        rw [hc] at h1
        refine Ev.step (h := fun k => cowrieref04_Trim.j1 k s) (fun k => by rw [cowrieref04_Trim.l0, if_pos (by omega), if_pos (by omega), hb, if_neg (fun h => hn (.inl h)), if_neg (fun h => hn (.inr h))]) ?_
        exact Ev.step (h := fun k => cowrieref04_Trim.l1 k s) (fun k => by rw [cowrieref04_Trim.j1]) h1
theorem dw_all (l : List UInt8) (h : ∀ c ∈ l, blk c = true) : l.dropWhile blk = [] := by
  induction l with
  | nil => rfl
  | cons c l ih =>
    rw [List.dropWhile_cons, if_pos (h c List.mem_cons_self)]
    exact ih (fun x hx => h x (List.mem_cons_of_mem _ hx))
theorem trim_same (l : List UInt8) : trimR (l.dropWhile blk) = Lib.trimS l [32, 9] := by
  have hcb : ∀ c : UInt8, [32, 9].contains c = blk c := by
    intro c
    cases h1 : (c == 32) <;> cases h2 : (c == 9) <;> simp_all [blk]
  have hf : (fun c : UInt8 => [32, 9].contains c) = blk := funext hcb
  unfold Lib.trimS Lib.trimRightS
  rw [tl_blk, hf]
  unfold trimR
  have hl := List.takeWhile_append_dropWhile (p := blk) (l := l)
  have htw : ∀ c ∈ l.takeWhile blk, blk c = true := List.all_eq_true.1 List.all_takeWhile
  have hhd := List.head?_dropWhile_not blk l
  generalize l.takeWhile blk = a at hl htw
  generalize l.dropWhile blk = d at hl hhd ⊢
  subst hl
  rw [List.reverse_append, List.dropWhile_append]
  have ha : a.reverse.dropWhile blk = [] := dw_all _ (fun c hc => htw c (List.mem_reverse.1 hc))
  cases hx : d.reverse.dropWhile blk with
  | nil => simp [ha]
  | cons x y =>
    have hne : (x :: y).isEmpty = false := rfl
    rw [if_neg (by simp), List.reverse_append, List.reverse_reverse, List.dropWhile_append, dw_all a htw]
    show _ = (x :: y).reverse.dropWhile blk
    have h1 := List.takeWhile_append_dropWhile (p := blk) (l := d.reverse)
    rw [hx] at h1
    have h2 : d = (x :: y).reverse ++ (d.reverse.takeWhile blk).reverse := by
      have := congrArg List.reverse h1
      rw [List.reverse_append, List.reverse_reverse] at this
      exact this.symm
    cases hr : (x :: y).reverse with
    | nil => simp at hr
    | cons c u =>
      rw [hr] at h2
      rw [h2] at hhd
      have hb : blk c = false := by simpa using hhd
      rw [List.dropWhile_cons, if_neg (by simp [hb])]
theorem trimR_T (l : List UInt8) (h : T l) : trimR l = l := by
  rcases h with rfl | ⟨_, ⟨t, c, hc, hb⟩⟩
  · rfl
  · rw [hc, trimR_snoc, if_neg (by simp [hb])]

/-! ### the page's Words -/
theorem ref_words (n : Int) (hn0 : -9223372036854775808 ≤ n) (hn1 : n ≤ 9223372036854775807) : ∀ (d f : Nat) (x0 : ByteArray) (x5 : List ByteArray), x0.size ≤ d → d < f → T x0.data.toList → x5.length + d ≤ 10000000 →
    ∃ L, Ev (fun k => cowrieref08_Words.l0 k x0 n x5) (x5 ++ L) ∧ L.map (·.data.toList) = W f (n - x5.length) x0.data.toList
  | d, 0, _, _, _, hf, _, _ => by omega
  | d, f + 1, x0, x5, hd, hf, hT, hl => by
    have hxl : x0.data.toList.length = x0.size := by simp
    by_cases he : x0.data.toList = []
    · have hz : x0.size = 0 := by rw [← hxl, he]; rfl
      refine ⟨[], ?_, by rw [W, if_pos he]; rfl⟩
      rw [List.append_nil]
      refine Ev.step (h := fun k => cowrieref08_Words.j1 k x0 n x5 false) (fun k => by rw [cowrieref08_Words.l0, if_neg (by omega)]) ?_
      exact Ev.step (h := fun _ => some x5) (fun k => by rw [cowrieref08_Words.j1, if_neg (by simp)]) (Ev.const x5)
    · have hz : 0 < x0.size := by
        have := List.length_pos_iff.2 he
        omega
      by_cases hlt : (x5.length : Int) < n
      · by_cases h1 : (x5.length : Int) = n - 1
        · refine ⟨[x0], ?_, by rw [W, if_neg he, if_neg (by omega), if_pos (by omega)]; rfl⟩
          refine Ev.step (h := fun k => cowrieref08_Words.j1 k x0 n x5 true) (fun k => by rw [cowrieref08_Words.l0, if_pos (by omega), decide_eq_true hlt]) ?_
          refine Ev.step (h := fun _ => some (x5 ++ [x0])) (fun k => by rw [cowrieref08_Words.j1, if_pos rfl, w64 (by omega) (by omega), if_pos h1, if_pos (by omega)]) (Ev.const _)
        · obtain ⟨⟨c, t, hc, hb⟩, hlast⟩ := hT.resolve_left he
          obtain ⟨htk, htd⟩ := take_len x0.data.toList (fun c => !blk c)
          have htw : ∀ x ∈ x0.data.toList.takeWhile (fun c => !blk c), (!blk x) = true := List.all_eq_true.1 List.all_takeWhile
          have hhd := List.head?_dropWhile_not (fun c => !blk c) x0.data.toList
          have hsum := congrArg List.length (List.takeWhile_append_dropWhile (p := fun c => !blk c) (l := x0.data.toList))
          rw [List.length_append] at hsum
          obtain ⟨a, ha⟩ : ∃ a, (x0.data.toList.takeWhile (fun c => !blk c)).length = a := ⟨_, rfl⟩
          rw [ha] at htk htd hsum
          have ha0 : 0 < a := by
            rw [← ha, hc, List.takeWhile_cons, if_pos (by simp [hb])]
            simp
          have hT2 : T ((x0.data.toList.dropWhile (fun c => !blk c)).dropWhile blk) := T_drop hlast (x0.data.toList.dropWhile (fun c => !blk c)) ⟨x0.data.toList.takeWhile (fun c => !blk c), (List.takeWhile_append_dropWhile).symm⟩
          have hdl := drop_le blk (x0.data.toList.dropWhile (fun c => !blk c))
          have hdl2 : (x0.data.toList.dropWhile (fun c => !blk c)).length = x0.size - a := by omega
          have hsx : (x0.extract a x0.size).size = x0.size - a := by rw [ByteArray.size_extract]; omega
          have hex : (x0.extract a x0.size).data.toList = x0.data.toList.dropWhile (fun c => !blk c) := by rw [ext_data, htd]
          have htr := trim_l0 (x0.size - a) (x0.extract a x0.size) hsx (by omega)
          rw [hex, trimR_T _ hT2] at htr
          obtain ⟨d2, rfl⟩ : ∃ d2, d = d2 + 1 := ⟨d - 1, by omega⟩
          have hsz2 : (⟨((x0.data.toList.dropWhile (fun c => !blk c)).dropWhile blk).toArray⟩ : ByteArray).size ≤ d2 := by
            show (((x0.data.toList.dropWhile (fun c => !blk c)).dropWhile blk).toArray).size ≤ _
            rw [List.size_toArray]
            omega
          obtain ⟨L, e1, e2⟩ := ref_words n hn0 hn1 d2 f ⟨((x0.data.toList.dropWhile (fun c => !blk c)).dropWhile blk).toArray⟩ (x5 ++ [x0.extract 0 a]) hsz2 (by omega) hT2 (by rw [List.length_append, List.length_singleton]; omega)
          refine ⟨x0.extract 0 a :: L, ?_, ?_⟩
          · have htail : Ev (fun k => (cowrieref04_Trim.f k (x0.extract a x0.size)).bind fun t201 => (cowrieref08_Words.l0 k t201 n (x5 ++ [x0.extract 0 a]))) (x5 ++ (x0.extract 0 a :: L)) := by
              have h7 : x5 ++ (x0.extract 0 a :: L) = x5 ++ [x0.extract 0 a] ++ L := by simp
              rw [h7]
              exact Ev.bind (f := fun k t201 => cowrieref08_Words.l0 k t201 n (x5 ++ [x0.extract 0 a])) htr e1
            have hscan : ∀ (m i : Nat), i + m = a → Ev (fun k => cowrieref08_Words.l1 k x0 n x5 (i : Int)) (x5 ++ (x0.extract 0 a :: L)) := by
              intro m
              induction m with
              | zero =>
                intro i hi
                obtain rfl : i = a := by omega
                refine Ev.step (fun k => ?_) htail
                rw [cowrieref08_Words.l1]
                by_cases hend : (i : Int) < x0.size
                · have hbi := bt_list x0 i (by omega)
                  have hbb : blk (x0.data.toList[i]'(by omega)) = true := by
                    have h8 : (x0.data.toList.dropWhile (fun c => !blk c)).head? = some (x0.data.toList[i]'(by omega)) := by
                      rw [← htd, List.head?_drop, List.getElem?_eq_getElem (by omega)]
                    rw [h8] at hhd
                    simpa using hhd
                  rw [if_pos hend, if_pos (by omega), hbi, Int.toNat_natCast]
                  rcases (blk_or _).1 hbb with h | h
                  · rw [if_pos h, if_pos (by omega), if_pos (by omega)]
                  · rw [if_neg (by omega), if_pos h, if_pos (by omega), if_pos (by omega)]
                · rw [if_neg hend, if_pos (by omega), if_pos (by omega), if_pos (by omega), Int.toNat_natCast]
              | succ m ih =>
                intro i hi
                refine Ev.step (fun k => ?_) (ih (i + 1) (by omega))
                have hbi := bt_list x0 i (by omega)
                have hnb : blk (x0.data.toList[i]'(by omega)) = false := by
                  have h8 : x0.data.toList[i]'(by omega) ∈ x0.data.toList.takeWhile (fun c => !blk c) := by
                    rw [← htk]
                    have h9 : (x0.data.toList.take a)[i]? = some (x0.data.toList[i]'(by omega)) := by rw [List.getElem?_take, if_pos (by omega), List.getElem?_eq_getElem (by omega)]
                    exact List.mem_of_getElem? h9
                  have := htw _ h8
                  simpa using this
                have hn : ¬ (((x0.data.toList[i]'(by omega)).toNat : Int) = 32 ∨ ((x0.data.toList[i]'(by omega)).toNat : Int) = 9) := fun h => by rw [(blk_or _).2 h] at hnb; cases hnb
                rw [cowrieref08_Words.l1, if_pos (by omega), if_pos (by omega), hbi, if_neg (fun h => hn (.inl h)), if_neg (fun h => hn (.inr h)), w64 (by omega) (by omega)]
                rfl
            refine Ev.step (h := fun k => cowrieref08_Words.j1 k x0 n x5 true) (fun k => by rw [cowrieref08_Words.l0, if_pos (by omega), decide_eq_true hlt]) ?_
            refine Ev.step (h := fun k => cowrieref08_Words.l1 k x0 n x5 0) (fun k => by rw [cowrieref08_Words.j1, if_pos rfl, w64 (by omega) (by omega), if_neg h1]) ?_
            exact hscan a 0 (by omega)
          · rw [W, if_neg he, if_neg (by omega), if_neg (by omega), List.map_cons, ext_take, htk, e2, List.length_append, List.length_singleton]
            congr 2
            omega
      · refine ⟨[], ?_, by rw [W, if_neg he, if_pos (by omega)]; rfl⟩
        rw [List.append_nil]
        refine Ev.step (h := fun k => cowrieref08_Words.j1 k x0 n x5 false) (fun k => by rw [cowrieref08_Words.l0, if_pos (by omega), decide_eq_false hlt]) ?_
        exact Ev.step (h := fun _ => some x5) (fun k => by rw [cowrieref08_Words.j1, if_neg (by simp)]) (Ev.const x5)

/-! ### Join and Texts -/
def numsOf (l : List S53) : List Int := l.flatMap fun p => p.f0.map fun c => c.f0
theorem numsOf_len : ∀ l : List S53, (numsOf l).length ≤ tot35 l
  | [] => by simp [numsOf]
  | p :: l => by
    have ih := numsOf_len l
    have e : tot35 (p :: l) = p.f0.length + 1 + tot35 l := rfl
    unfold numsOf at ih ⊢
    rw [List.flatMap_cons, List.length_append, List.length_map]
    omega
theorem join_l1 (x0 : List S53) (hxl : x0.length ≤ 10000000) (i : Nat) (hi : i < x0.length) (hl : (x0[i]).f0.length ≤ 10000000) (r : ByteArray) : ∀ (d j : Nat) (x3 : List Int), j + d = (x0[i]).f0.length → x3.length + d ≤ 100000000 →
    Ev (fun k => cowrieref08_Join.l0 k x0 (x3 ++ ((x0[i]).f0.drop j).map fun c => c.f0) ((i + 1 : Nat) : Int)) r → Ev (fun k => cowrieref08_Join.l1 k x0 x3 (i : Int) (j : Int)) r
  | 0, j, x3, hj, hx, hn => by
    rw [List.drop_of_length_le (by omega), List.map_nil, List.append_nil] at hn
    refine Ev.step (fun k => ?_) hn
    rw [cowrieref08_Join.l1, if_pos (by omega), if_pos (by omega), rd_at x0 i hi, if_neg (by omega), w64 (by omega) (by omega)]
    rfl
  | d + 1, j, x3, hj, hx, hn => by
    refine Ev.step (fun k => ?_) (join_l1 x0 hxl i hi hl r d (j + 1) (x3 ++ [((x0[i]).f0[j]'(by omega)).f0]) (by omega) (by rw [List.length_append, List.length_singleton]; omega) (by
      rw [List.append_assoc]
      have h1 : (x0[i]).f0.drop j = (x0[i]).f0[j]'(by omega) :: (x0[i]).f0.drop (j + 1) := List.drop_eq_getElem_cons (by omega)
      rw [h1] at hn
      exact hn))
    rw [cowrieref08_Join.l1, if_pos (by omega), if_pos (by omega), rd_at x0 i hi, if_pos (by omega), if_pos (by omega), if_pos (by omega), rd_at24 _ j (by omega), w64 (by omega) (by omega)]
    rfl
theorem join_l0 (x0 : List S53) (ht : tot35 x0 ≤ 10000000) : ∀ (d i : Nat) (x3 : List Int), i + d = x0.length → x3.length + (numsOf (x0.drop i)).length ≤ 50000000 →
    Ev (fun k => cowrieref08_Join.l0 k x0 x3 (i : Int)) (strOfNums (x3 ++ numsOf (x0.drop i)))
  | 0, i, x3, hi, hx => by
    rw [List.drop_of_length_le (by omega)]
    refine Ev.step (h := fun _ => some (strOfNums x3)) (fun k => by rw [cowrieref08_Join.l0, if_neg (by omega)]) ?_
    have : x3 ++ numsOf [] = x3 := by simp [numsOf]
    rw [this]
    exact Ev.const _
  | d + 1, i, x3, hi, hx => by
    have hiL : i < x0.length := by omega
    have hlen := tot35_len x0
    have hpl := tot35_mem x0 _ (List.getElem_mem hiL)
    have hdr : x0.drop i = x0[i] :: x0.drop (i + 1) := List.drop_eq_getElem_cons hiL
    have hnd : numsOf (x0.drop i) = ((x0[i]).f0.map fun c => c.f0) ++ numsOf (x0.drop (i + 1)) := by
      rw [hdr]
      unfold numsOf
      rw [List.flatMap_cons]
    have hnl := congrArg List.length hnd
    rw [List.length_append, List.length_map] at hnl
    refine Ev.step (h := fun k => cowrieref08_Join.l1 k x0 x3 (i : Int) 0) (fun k => by rw [cowrieref08_Join.l0, if_pos (by omega)]) ?_
    refine join_l1 x0 (by omega) i hiL (by omega) _ (x0[i]).f0.length 0 x3 (by omega) (by omega) ?_
    rw [List.drop_zero, hnd, ← List.append_assoc]
    exact join_l0 x0 ht d (i + 1) _ (by omega) (by rw [List.length_append, List.length_map]; omega)
theorem ref_join (x0 : List S53) (ht : tot35 x0 ≤ 10000000) : Ev (fun k => cowrieref08_Join.f k x0) (strOfNums (numsOf x0)) := by
  have h := join_l0 x0 ht x0.length 0 [] (by omega) (by have := numsOf_len x0; simp; omega)
  rw [List.drop_zero, List.nil_append] at h
  exact h
theorem nums_oct (l : List S39) : (l.map fun c => c.f0).map (fun n => UInt8.ofNat n.toNat) = octets l := by
  unfold octets
  rw [List.map_map]
  rfl
theorem all_same : ∀ l : List S53, (numsOf l).map (fun n => UInt8.ofNat n.toNat) = allOct (l.map as28)
  | [] => rfl
  | p :: l => by
    have ih := all_same l
    unfold numsOf allOct at ih ⊢
    rw [List.flatMap_cons, List.map_append, ih, nums_oct, List.map_cons, List.flatMap_cons]
    rfl
theorem join_same (l : List S53) : strOfNums (numsOf l) = ⟨(allOct (l.map as28)).toArray⟩ := by
  apply ba_of
  rw [strOfNums_data, all_same]
theorem isOct (l : List S39) (h : ∀ c ∈ l, 0 ≤ c.f0 ∧ c.f0 ≤ 255) : l.all isOctet = true := by
  rw [List.all_eq_true]
  intro c hc
  have := h c hc
  unfold isOctet
  simp
  exact this
theorem Texts_l0 (r : List (List S39)) (hr : r.length ≤ 10000000) (hl : ∀ x ∈ r, x.length ≤ 10000000 ∧ x.all isOctet = true) : ∀ (d i : Nat) (x3 : List ByteArray), i + d = r.length → x3.length + d ≤ 100000000 →
    Ev (fun k => fields_Texts.l0 k x3 r (r.length : Int) (i : Int)) (x3 ++ (r.drop i).map fun x => ⟨(octets x).toArray⟩)
  | 0, i, x3, hi, hx => by
    rw [List.drop_of_length_le (by omega), List.map_nil, List.append_nil]
    exact Ev.step (h := fun _ => some x3) (fun k => by rw [fields_Texts.l0, if_neg (by omega)]) (Ev.const _)
  | d + 1, i, x3, hi, hx => by
    have hiL : i < r.length := by omega
    obtain ⟨h1, h2⟩ := hl _ (List.getElem_mem hiL)
    have hdr : r.drop i = r[i] :: r.drop (i + 1) := List.drop_eq_getElem_cons hiL
    have ih := Texts_l0 r hr hl d (i + 1) (x3 ++ [⟨(octets r[i]).toArray⟩]) (by omega) (by rw [List.length_append, List.length_singleton]; omega)
    rw [hdr, List.map_cons]
    rw [List.append_assoc] at ih
    refine Ev.step (fun k => ?_) ih
    rw [fields_Texts.l0, if_pos (by omega), if_pos (by omega), if_pos (by omega), rd_atL r i hiL, text_some _ (by omega) h2, Option.bind_some, if_pos (by omega), w64 (by omega) (by omega)]
    rfl
theorem refTexts_l0 (r : List (List S39)) (hr : r.length ≤ 10000000) (hl : ∀ x ∈ r, x.length ≤ 5000000 ∧ x.all isOctet = true) : ∀ (d i : Nat) (x3 : List ByteArray), i + d = r.length → x3.length + d ≤ 100000000 →
    Ev (fun k => cowrieref08_Texts.l0 k r x3 (i : Int)) (x3 ++ (r.drop i).map fun x => ⟨(octets x).toArray⟩)
  | 0, i, x3, hi, hx => by
    rw [List.drop_of_length_le (by omega), List.map_nil, List.append_nil]
    exact Ev.step (h := fun _ => some x3) (fun k => by rw [cowrieref08_Texts.l0, if_neg (by omega)]) (Ev.const _)
  | d + 1, i, x3, hi, hx => by
    have hiL : i < r.length := by omega
    obtain ⟨h1, h2⟩ := hl _ (List.getElem_mem hiL)
    have hdr : r.drop i = r[i] :: r.drop (i + 1) := List.drop_eq_getElem_cons hiL
    have ih := refTexts_l0 r hr hl d (i + 1) (x3 ++ [⟨(octets r[i]).toArray⟩]) (by omega) (by rw [List.length_append, List.length_singleton]; omega)
    rw [List.append_assoc] at ih
    have hj := ref_join ([(⟨r[i], false, false, false⟩ : S53)]) (by show (r[i]).length + 1 + 0 ≤ _; omega)
    have hnum : strOfNums (numsOf [(⟨r[i], false, false, false⟩ : S53)]) = ⟨(octets r[i]).toArray⟩ := by
      apply ba_of
      rw [strOfNums_data]
      unfold numsOf
      rw [List.flatMap_cons, List.flatMap_nil, List.append_nil, nums_oct]
    rw [hnum] at hj
    rw [hdr, List.map_cons]
    refine Ev.step (h := fun k => (cowrieref08_Join.f k ([(⟨r[i], false, false, false⟩ : S53)])).bind fun t219 => (if x3.length < 8796093022208 then (cowrieref08_Texts.l0 k r (x3 ++ [t219]) (wrap64 ((i : Int) + 1))) else (none))) (fun k => by rw [cowrieref08_Texts.l0, if_pos (by omega), if_pos (by omega), rd_atL r i hiL]) ?_
    refine Ev.bind (f := fun k t219 => (if x3.length < 8796093022208 then (cowrieref08_Texts.l0 k r (x3 ++ [t219]) (wrap64 ((i : Int) + 1))) else (none))) hj ?_
    refine Ev.of_eq (fun k => ?_) ih
    rw [if_pos (by omega), w64 (by omega) (by omega)]
    rfl

theorem texts_same (L : List ByteArray) (hL : L.length ≤ 1000000000) : Ev (fun k => cowrieplain_SameTexts.f k L L) true := by
  refine ⟨L.length + 1, fun k hk => ?_⟩
  have hrun : ∀ (d k : Nat) (i : Nat), i + d = L.length → d < k → cowrieplain_SameTexts.l0 k L L (i : Int) = some true := by
    intro d
    induction d with
    | zero =>
      intro k i hi hk
      obtain ⟨m, rfl⟩ : ∃ m, k = m + 1 := ⟨k - 1, by omega⟩
      rw [cowrieplain_SameTexts.l0, if_neg (by omega)]
    | succ d ih =>
      intro k i hi hk
      obtain ⟨m, rfl⟩ : ∃ m, k = m + 1 := ⟨k - 1, by omega⟩
      rw [cowrieplain_SameTexts.l0, if_pos (by omega), if_pos (by omega), if_pos (by omega), if_pos rfl, w64 (by omega) (by omega)]
      exact ih m (i + 1) (by omega) (by omega)
  show cowrieplain_SameTexts.f k L L = some true
  unfold cowrieplain_SameTexts.f
  rw [if_pos rfl]
  exact hrun L.length k 0 (by omega) (by omega)
theorem map_inj : ∀ (x y : List ByteArray), x.map (·.data.toList) = y.map (·.data.toList) → x = y := by
  intro x
  induction x with
  | nil => intro y h; cases y with
    | nil => rfl
    | cons b y => simp at h
  | cons a x ih => intro y h; cases y with
    | nil => simp at h
    | cons b y =>
      rw [List.map_cons, List.map_cons] at h
      injection h with h1 h2
      rw [ih y h2]
      congr 1
      apply ByteArray.ext
      exact Array.toList_inj.1 h1

theorem W_len : ∀ (f : Nat) (r : Int) (s : List UInt8), (W f r s).length ≤ f
  | 0, _, _ => by rw [W]; simp
  | f + 1, r, s => by
    have := W_len f (r - 1) ((s.dropWhile (fun c => !blk c)).dropWhile blk)
    rw [W]
    split
    · simp
    · split
      · simp
      · split
        · simp
        · rw [List.length_cons]; omega
theorem kept_mem (ifs : ByteArray) (l : List S53) (c : S39) (h : c ∈ kept ifs (l.map as28)) : ∃ p ∈ l, c ∈ p.f0 := by
  unfold kept at h
  obtain ⟨q, hq, hc⟩ := List.mem_flatMap.1 h
  obtain ⟨p, hp, rfl⟩ := List.mem_map.1 hq
  exact ⟨p, hp, (List.mem_filter.1 hc).1⟩
theorem allOct_len : ∀ l : List S53, (allOct (l.map as28)).length ≤ tot35 l
  | [] => Nat.zero_le _
  | p :: l => by
    have ih := allOct_len l
    have e : tot35 (p :: l) = p.f0.length + 1 + tot35 l := rfl
    have e2 : (allOct ((p :: l).map as28)).length = (octets p.f0).length + (allOct (l.map as28)).length := by
      unfold allOct
      rw [List.map_cons, List.flatMap_cons, List.length_append]
      rfl
    have e3 : (octets p.f0).length = p.f0.length := by unfold octets; rw [List.length_map]
    omega

theorem FieldsTells (l0 : List S53) (a1 a2 : ByteArray) (a3 : Int) (hs : a1.size ≤ 1048576) (hs2 : a2.size ≤ 1048576) (hn0 : -9223372036854775808 ≤ a3) (hn1 : a3 ≤ 9223372036854775807) (ht : tot35 l0 ≤ 1048576) (hw : ∀ p ∈ l0, ∀ c ∈ p.f0, 0 ≤ c.f0 ∧ c.f0 ≤ 255) : ∃ k, cowrielaw08_FieldsTells.f k l0 a1 a2 a3 = some true := by
  have hlen := tot35_len l0
  have hOf : Ev (fun k => cowrielaw08_Of.f k l0) (l0.map as28) := by
    have hof := run_of l0 ht l0.length 0 [] (by omega) (by simp only [List.length_nil]; omega)
    rw [show ((0 : Nat) : Int) = 0 from rfl, List.drop_zero, List.nil_append] at hof
    refine ⟨l0.length + 1, fun k hk => ?_⟩
    obtain ⟨m, rfl⟩ : ∃ m, k = l0.length + 1 + m := ⟨k - (l0.length + 1), by omega⟩
    exact more_rounds (g := fun k => cowrielaw08_Of.f k l0) (fun k => cowrielaw08_Of.mono l0 k) (l0.length + 1) _ _ hof
  obtain ⟨r, hr⟩ : ∃ r, fields_Fields.f (l0.map as28) a1 = some r := by
    unfold fields_Fields.f
    rw [if_pos (by rw [tot_as]; omega)]
    exact ⟨_, rfl⟩
  have hrf := fields_flat _ _ _ hr
  have hkl := kept_len a1 l0
  have hrl : r.length ≤ 5000000 := by
    unfold fields_Fields.f at hr
    split at hr
    · next hh =>
      have hp := (pAll_out a1 (l0.map as28) ⟨[], [], false, false⟩).1
      rw [tot_as] at hp
      simp only [Option.some.injEq] at hr
      subst hr
      simp only [List.length_nil, Nat.zero_add] at hp
      split
      · simp only [pEnd, List.length_append, List.length_singleton]
        omega
      · omega
    · cases hr
  have hoct : ∀ x ∈ r, x.length ≤ 1048576 ∧ x.all isOctet = true := by
    intro x hx
    have h1 := mem_flat r x hx
    rw [hrf] at h1
    refine ⟨by omega, isOct x fun c hc => ?_⟩
    have h2 : c ∈ r.flatten := List.mem_flatten.2 ⟨x, hx, hc⟩
    rw [hrf] at h2
    obtain ⟨p, hp, hc2⟩ := kept_mem a1 l0 c h2
    exact hw p hp c hc2
  have hFl : Ev (fun k => cowrieref08_Fields.f k l0 a1) r := by
    obtain ⟨k, hk⟩ := ref_fields l0 a1 hs ht hw
    refine ⟨k, fun m hm => ?_⟩
    obtain ⟨d, rfl⟩ : ∃ d, m = k + d := ⟨m - k, by omega⟩
    exact (hk d).trans hr
  have hSF : Ev (fun k => cowrieplain_SameFields.f k r r) true := by
    refine ⟨r.length + 2000002, fun k hk => ?_⟩
    have h9 := rows_self r (by omega) (fun x hx => by have := (hoct x hx).1; omega) r.length k 0 (by omega) (by omega)
    show cowrieplain_SameFields.f k r r = some true
    unfold cowrieplain_SameFields.f
    rw [if_pos rfl]
    exact h9
  have hJ := ref_join l0 (by omega)
  rw [join_same] at hJ
  have hfj : fields_Join.f (l0.map as28) = some ⟨(allOct (l0.map as28)).toArray⟩ := by
    have h1 := allOct_len l0
    unfold fields_Join.f
    rw [if_pos ⟨by omega, by rw [List.length_map]; omega, List.all_eq_true.2 fun p hp => by
      obtain ⟨q, hq, rfl⟩ := List.mem_map.1 hp
      exact isOct _ (hw q hq)⟩]
  have hsl : a2.data.toList.length = a2.size := by simp
  obtain ⟨L, hL1, hL2⟩ : ∃ L, Ev (fun k => fields_Words.f k a2 a3) L ∧ L.map (·.data.toList) = W (a2.size + 1) a3 (Lib.trimS a2.data.toList [32, 9]) := by
    obtain ⟨L, e1, e2⟩ := words_spec a2 (by omega) a3 hn0 hn1 (2 * a2.size + 3) (Nat.le_refl _)
    refine ⟨L, ⟨2 * a2.size + 3, fun k hk => ?_⟩, e2⟩
    obtain ⟨L', e1', e2'⟩ := words_spec a2 (by omega) a3 hn0 hn1 k hk
    have : L' = L := map_inj _ _ (e2'.trans e2.symm)
    rw [← this]
    exact e1'
  have hle : (Lib.trimS a2.data.toList [32, 9]).length ≤ a2.size := by
    unfold Lib.trimS Lib.trimRightS
    rw [tl_blk]
    have h1 := drop_le blk (a2.data.toList.reverse.dropWhile ([32, 9].contains ·)).reverse
    have h2 := drop_le ([32, 9].contains ·) a2.data.toList.reverse
    rw [List.length_reverse] at h1 h2
    omega
  have hRW : Ev (fun k => cowrieref08_Words.f k a2 a3) L := by
    have htr := trim_l0 a2.size a2 rfl (by omega)
    rw [trim_same] at htr
    obtain ⟨L2, e1, e2⟩ := ref_words a3 hn0 hn1 a2.size (a2.size + 1) ⟨(Lib.trimS a2.data.toList [32, 9]).toArray⟩ [] (by show (Lib.trimS a2.data.toList [32, 9]).toArray.size ≤ _; rw [List.size_toArray]; exact hle) (by omega) (trim_T _) (by simp only [List.length_nil]; omega)
    rw [List.nil_append] at e1
    have e3 : L2 = L := map_inj _ _ (by rw [e2, hL2]; simp)
    rw [e3] at e1
    exact Ev.bind (f := fun k t194 => cowrieref08_Words.l0 k t194 a3 ([] : List ByteArray)) htr e1
  have hST := texts_same L (by
    have h1 := congrArg List.length hL2
    rw [List.length_map] at h1
    have h2 := W_len (a2.size + 1) a3 (Lib.trimS a2.data.toList [32, 9])
    omega)
  have hT := Texts_l0 r (by omega) (fun x hx => ⟨by have := (hoct x hx).1; omega, (hoct x hx).2⟩) r.length 0 [] (by omega) (by simp only [List.length_nil]; omega)
  have hRT := refTexts_l0 r (by omega) (fun x hx => ⟨by have := (hoct x hx).1; omega, (hoct x hx).2⟩) r.length 0 [] (by omega) (by simp only [List.length_nil]; omega)
  rw [List.drop_zero, List.nil_append, show ((0 : Nat) : Int) = 0 from rfl] at hT hRT
  generalize hTT : (r.map fun x => (⟨(octets x).toArray⟩ : ByteArray)) = TT at hT hRT
  have hST2 := texts_same TT (by rw [← hTT, List.length_map]; omega)
  obtain ⟨k1, h1⟩ := hOf
  obtain ⟨k2, h2⟩ := hFl
  obtain ⟨k3, h3⟩ := hSF
  obtain ⟨k4, h4⟩ := hJ
  obtain ⟨k5, h5⟩ := hL1
  obtain ⟨k6, h6⟩ := hRW
  obtain ⟨k7, h7⟩ := hST
  obtain ⟨k8, h8⟩ := hT
  obtain ⟨k9, h9⟩ := hRT
  obtain ⟨k10, h10⟩ := hST2
  obtain ⟨K, hK⟩ : ∃ K, K = k1 + k2 + k3 + k4 + k5 + k6 + k7 + k8 + k9 + k10 := ⟨_, rfl⟩
  have e1 : cowrielaw08_Of.f K l0 = _ := h1 K (by omega)
  have e2 : cowrieref08_Fields.f K l0 a1 = _ := h2 K (by omega)
  have e3 : cowrieplain_SameFields.f K r r = _ := h3 K (by omega)
  have e4 : cowrieref08_Join.f K l0 = _ := h4 K (by omega)
  have e5 : fields_Words.f K a2 a3 = _ := h5 K (by omega)
  have e6 : cowrieref08_Words.f K a2 a3 = _ := h6 K (by omega)
  have e7 : cowrieplain_SameTexts.f K L L = _ := h7 K (by omega)
  have e8 : fields_Texts.f K r = _ := h8 K (by omega)
  have e9 : cowrieref08_Texts.f K r = _ := h9 K (by omega)
  have e10 : cowrieplain_SameTexts.f K TT TT = _ := h10 K (by omega)
  refine ⟨K, ?_⟩
  unfold cowrielaw08_FieldsTells.f
  rw [e1, Option.bind_some, hr, Option.bind_some, e2, Option.bind_some, e3, Option.bind_some, if_pos rfl, Option.bind_some, hfj, Option.bind_some, e4, Option.bind_some, if_pos rfl, e5, Option.bind_some, e6, Option.bind_some, e7, Option.bind_some, if_pos rfl, e8, Option.bind_some, e9, Option.bind_some, e10, Option.bind_some, if_pos rfl, alive_ok, Option.bind_some]

theorem FieldsTellsU (l0 : List S53) (a1 a2 : ByteArray) (a3 : Int) (hw : ∀ y0 ∈ l0, wfS53 y0) (w3 : (Lit.int .i64 a3).wf = true) (hs : a1.size ≤ 1048576) (hs2 : a2.size ≤ 1048576) (ht : (l0.map fun y0 => szS53 y0).sum ≤ 1048576) : ∃ k, cowrielaw08_FieldsTells.f k l0 a1 a2 a3 = some true := by
  have w : -9223372036854775808 ≤ a3 ∧ a3 ≤ 9223372036854775807 := by
    simp [Lit.wf, IntKind.min, IntKind.max, IntKind.signed, IntKind.bits] at w3
    omega
  exact FieldsTells l0 a1 a2 a3 hs hs2 w.1 w.2 (Nat.le_trans (tot35_bulk l0) ht) (wf_chars l0 hw)

end Go.Proofs.YtfmfncknpifjcaaDoor.PureT

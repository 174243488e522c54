/- Proved: the plain law of TreeLists: the names in a directory are those of which there is something, in order; a new file's name is one more. Conditions: a tree that fits, a text of at most 2 to the 20 octets. -/
import Derived.Test.YtdfddiehiiaepaaDoorVlP3
import Derived.Test.YtdfddiehiiaepaaDoorVlNames
set_option linter.unusedVariables false
set_option linter.unusedSimpArgs false
namespace Go.Proofs.YtdfddiehiiaepaaDoor.PureT7
open Go.RowKit Go.Proofs.YtdfddiehiiaepaaDoor.P Go.Proofs.YtdfddiehiiaepaaDoor.Ext Go.Proofs.YtdfddiehiiaepaaDoorW.PrintWords
theorem mem_names {t : List S65} {p x : ByteArray} : x ∈ namesB t p ↔ ∃ n ∈ t, (dirB n.f0).toList = p.toList ∧ nameB n.f0 = x := by
  unfold namesB namesF
  rw [List.mem_map]
  constructor
  · rintro ⟨f, hf, rfl⟩
    rw [List.mem_filter, List.mem_map] at hf
    obtain ⟨⟨n, hn, rfl⟩, hd⟩ := hf
    exact ⟨n, hn, by simpa using hd, rfl⟩
  · rintro ⟨n, hn, hd, rfl⟩
    exact ⟨n.f0, List.mem_filter.2 ⟨List.mem_map_of_mem hn, by simpa using hd⟩, rfl⟩
theorem names_nodup {t : List S65} (h : checkB t = true) (a : ByteArray) : (namesB t (pathB a)).Pairwise (fun x y => x ≠ y) := by
  have hs := ((check_iff t).1 h).1
  have key : ∀ l : List S65, (∀ n ∈ l, n ∈ t) → Sorted l → (namesB l (pathB a)).Pairwise (fun x y => x ≠ y) := by
    intro l
    induction l with
    | nil => intro _ _; exact List.Pairwise.nil
    | cons n l ih =>
      intro hm hsl
      unfold Sorted at hsl
      rw [List.pairwise_cons] at hsl
      have ih' := ih (fun x hx => hm x (List.mem_cons_of_mem _ hx)) hsl.2
      rw [names_cons]
      split
      · rename_i hd
        rw [List.singleton_append, List.pairwise_cons]
        refine ⟨fun x hx e => ?_, ih'⟩
        obtain ⟨m, hmm, hmd, rfl⟩ := mem_names.1 hx
        obtain ⟨w1, _, q1, q2, _⟩ := node_in h (hm n (by simp)) a hd
        obtain ⟨w2, _, q3, q4, _⟩ := node_in h (hm m (List.mem_cons_of_mem _ hmm)) a hmd
        have e2 : w1 = w2 := by
          have := congrArg (fun z : ByteArray => z.data.toList) (q1.symm.trans (e.trans q3))
          exact this
        subst e2
        have h3 := hsl.1 m hmm
        unfold pk at h3
        rw [q2, q4] at h3
        exact lt_irr7 _ h3
      · exact ih'
  exact key t (fun n hn => hn) hs
def zz9 : ByteArray := ⟨#[122, 122, 57]⟩
theorem zz_good : Path.Good zz9.data.toList := by
  refine ⟨by decide, by decide, by decide, by decide⟩
theorem law_loop (t : List S65) (a : ByteArray) (L : List ByteArray) (hL : L.length ≤ 1000) (ha : a.size ≤ 1048576) (hsz : ∀ x ∈ L, x.size ≤ 1099511627776) (Fin : Option Bool) (K0 : Nat) (fnd : Bool)
    (hk : ∀ x ∈ L, ∃ r : Int, tree_Kind.f t (a ++ (⟨#[47]⟩ : ByteArray) ++ x) = some r ∧ r ≠ 0)
    (ho : ∀ i (h : i + 1 < L.length), Op.bytesLess (L[i]).toList (L[i + 1]).toList = true)
    (hfin : ∀ k, cowrielaw07_TreeLists.l0 (K0 + k + 1) t a L fnd (L.length : Int) = Fin) : ∀ (d i : Nat) (f : Bool), i + d = L.length → (f || (L.drop i).any (fun x => x.toList == [122, 122, 57])) = fnd →
    cowrielaw07_TreeLists.l0 (K0 + d + 1) t a L f i = Fin
  | 0, i, f, hd, hf => by
    obtain rfl : i = L.length := by omega
    rw [List.drop_length] at hf
    simp at hf
    subst hf
    exact hfin 0
  | d + 1, i, f, hd, hf => by
    have hil : i < L.length := by omega
    obtain ⟨r, h1, h2⟩ := hk _ (List.getElem_mem hil)
    have hx := hsz _ (List.getElem_mem hil)
    have hs1 : (a ++ (⟨#[47]⟩ : ByteArray)).size = a.size + 1 := by rw [ByteArray.size_append]; rfl
    rw [List.drop_eq_getElem_cons hil, List.any_cons] at hf
    have next : ∀ f', (f' || (L.drop (i + 1)).any (fun x => x.toList == [122, 122, 57])) = fnd → cowrielaw07_TreeLists.l0 (K0 + d + 1) t a L f' ((i + 1 : Nat) : Int) = Fin :=
      fun f' h => law_loop t a L hL ha hsz Fin K0 fnd hk ho hfin d (i + 1) f' (by omega) h
    have both : (if f = true then cowrielaw07_TreeLists.l0 (K0 + d + 1) t a L true ((i + 1 : Nat) : Int) else cowrielaw07_TreeLists.l0 (K0 + d + 1) t a L ((L[i]).toList == [122, 122, 57]) ((i + 1 : Nat) : Int)) = Fin := by
      cases f
      · rw [if_neg (by simp)]
        exact next _ (by simpa using hf)
      · rw [if_pos rfl]
        exact next _ (by simpa using hf)
    rw [show K0 + (d + 1) + 1 = (K0 + d + 1) + 1 by omega]
    unfold cowrielaw07_TreeLists.l0
    rw [if_pos (by omega), if_pos (by omega), if_pos (by omega), rd_at L i hil, if_pos (by rw [hs1]; omega), h1, Option.bind_some, if_neg h2, w1 i (by omega)]
    by_cases h0 : i = 0
    · rw [if_neg (by omega)]
      exact both
    · obtain ⟨m, rfl⟩ : ∃ m, i = m + 1 := ⟨i - 1, by omega⟩
      rw [if_pos (by omega), wm1 m (by omega), if_pos (by omega), if_pos (by omega), rd_at L m (by omega), if_pos (ho m hil)]
      exact both
/-- Where a node's path is that of a name in a directory. -/
theorem has_name {t : List S65} (h : checkB t = true) (a : ByteArray) (w : List UInt8) (hw : Path.Good w) :
    (mkB w ∈ namesB t (pathB a) ↔ ∃ n ∈ t, pk n = Path.pathL (Path.partsL a.data.toList ++ [w])) := by
  rw [mem_names]
  constructor
  · rintro ⟨n, hn, hd, he⟩
    obtain ⟨w', g1, g2, g3, _⟩ := node_in h hn a hd
    have : w' = w := by
      have := congrArg (fun z : ByteArray => z.data.toList) (g2.symm.trans he)
      exact this
    subst this
    exact ⟨n, hn, by unfold pk; rw [g3]; rfl⟩
  · rintro ⟨n, hn, hp⟩
    have e : n.f0 = mkB (Path.pathL (Path.partsL a.data.toList ++ [w])) := toB hp
    have hg : ∀ x ∈ Path.partsL a.data.toList ++ [w], Path.Good x := fun x hx => by
      rcases List.mem_append.1 hx with hx | hx
      · exact good a x hx
      · rw [List.mem_singleton.1 hx]; exact hw
    refine ⟨n, hn, ?_, ?_⟩
    · rw [e, dir_path _ hg, List.dropLast_concat]
      rfl
    · rw [e, name_path _ w hw.2.2.2]
theorem Put_some7 {t : List S65} {a d : ByteArray} (ht : fitsT t = true) (ha : a.size ≤ 1099511627770) (hd : d.size ≤ 1099511627776) : tree_Put.f t a d = some (PutB t a d) := by
  have hl := fits_len ht
  have hps := path_size a
  unfold tree_Put.f PutB
  rw [ask_some ht (by omega), Option.bind_some]
  rcases ask_cases t a with h | ⟨h1, h2⟩
  · rw [if_neg h, if_neg h]
  · rw [ask_good h1 h2, if_pos rfl, if_pos rfl]
    dsimp only
    unfold tree_kind.f
    rw [if_pos hl, Option.bind_some]
    by_cases hk : kindOf t (pathB a) = 2
    · rw [if_pos hk, if_pos hk]
    · rw [if_neg hk, if_neg hk]
      unfold tree_put.f
      rw [if_pos ⟨ht, by omega, hd, path_head a⟩, Option.bind_some]
theorem names_same {t : List S65} {n : S65} (p : ByteArray) (h : bsIs t n.f0 = true) : namesB (withB t n) p = namesB t p := by
  obtain ⟨hlt, he⟩ := is_at h
  unfold withB namesB
  rw [if_pos h, List.map_set, show n.f0 = (t.map (·.f0))[bs t n.f0]'(by rw [List.length_map]; exact hlt) by rw [List.getElem_map]; exact (toB he).symm]
  congr 1
  have : (t.map (·.f0))[bs t n.f0]'(by rw [List.length_map]; exact hlt) = n.f0 := by rw [List.getElem_map]; exact toB he
  rw [this]
  conv => lhs; arg 3; rw [← this]
  exact List.set_getElem_self _
theorem names_more {t : List S65} {n : S65} (p : ByteArray) (h : ¬ bsIs t n.f0 = true) (hd : (dirB n.f0).toList = p.toList) : (namesB (withB t n) p).length = (namesB t p).length + 1 := by
  unfold withB
  rw [if_neg h, names_append, names_cons, if_pos hd]
  have e := congrArg (fun l => (namesB l p).length) (List.take_append_drop (bs t n.f0) t)
  simp only [names_append, List.length_append] at e
  simp only [List.length_append, List.length_singleton]
  omega
theorem TreeListsU (t : List S65) (a : ByteArray) (ht : fitsT t = true) (h20 : ∀ n ∈ t, n.f0.size ≤ 1048576) (ha : a.size ≤ 1048576) (K : Nat) (hK : 100000 ≤ K) : cowrielaw07_TreeLists.f K t a = some true := by
  unfold cowrielaw07_TreeLists.f
  rw [alive_ok, Option.bind_some, if_pos rfl, List_some ht ha K (by omega), Option.bind_some, num_ok, Option.bind_some]
  unfold listB
  rcases ask_cases t a with h | ⟨h1, h2⟩
  · rw [if_neg h]
    dsimp only
    rw [if_neg h]
    rfl
  · rw [ask_good h1 h2, if_pos rfl]
    dsimp only
    rcases kind_cases t (pathB a) with hk | hk | hk
    · rw [hk, if_pos rfl]
      rfl
    · rw [hk, if_neg (show ¬ (1 : Int) = 0 by decide), if_pos (show (1 : Int) = 1 from rfl)]
      rfl
    · rw [hk, if_neg (show ¬ (2 : Int) = 0 by decide), if_neg (show ¬ (2 : Int) = 1 by decide)]
      dsimp only
      rw [if_pos rfl]
      obtain ⟨hs, c2, c3, c4⟩ := (check_iff t).1 h1
      have hnl := names_len t (pathB a)
      have hmem : ∀ x, x ∈ srt (namesB t (pathB a)) ↔ x ∈ namesB t (pathB a) := fun x => (srt_perm _).mem_iff
      have hLl : (srt (namesB t (pathB a))).length = (namesB t (pathB a)).length := srt_length _
      have hLs := srt_sorted (namesB t (pathB a))
      have hLn : (srt (namesB t (pathB a))).Pairwise (fun x y => x ≠ y) := (List.Perm.pairwise_iff (R := fun x y : ByteArray => x ≠ y) (fun h => Ne.symm h) (srt_perm _)).2 (names_nodup h1 a)
      have hzz : (srt (namesB t (pathB a))).any (fun x => x.toList == [122, 122, 57]) = true ↔ ∃ n ∈ t, pk n = Path.pathL (Path.partsL a.data.toList ++ [zz9.data.toList]) := by
        rw [← has_name h1 a _ zz_good, ← hmem, List.any_eq_true]
        constructor
        · rintro ⟨x, hx, he⟩
          rw [beq_iff_eq, Lib.toList_data] at he
          rw [show mkB zz9.data.toList = x from toB he.symm]
          exact hx
        · intro hx
          exact ⟨_, hx, by rw [Lib.toList_data]; rfl⟩
      generalize hL : srt (namesB t (pathB a)) = L at *
      have hkinds : ∀ x ∈ L, ∃ r : Int, tree_Kind.f t (a ++ (⟨#[47]⟩ : ByteArray) ++ x) = some r ∧ r ≠ 0 := fun x hx => by
        obtain ⟨n, hn, hd, he⟩ := mem_names.1 ((hmem x).1 hx)
        obtain ⟨w, g1, g2, g3, g4⟩ := node_in h1 hn a hd
        obtain rfl : mkB w = x := g2.symm.trans he
        have hsz : (mkB w).size ≤ 1048576 := by
          have h5 := h20 n hn
          have h6 := congrArg ByteArray.size he
          unfold nameB at h6
          rw [ByteArray.size_extract] at h6
          omega
        have hs1 : (a ++ (⟨#[47]⟩ : ByteArray)).size = a.size + 1 := by rw [ByteArray.size_append]; rfl
        have hs2 : (a ++ (⟨#[47]⟩ : ByteArray) ++ mkB w).size = a.size + 1 + (mkB w).size := by rw [ByteArray.size_append, hs1]
        have hpath : pathB (a ++ (⟨#[47]⟩ : ByteArray) ++ mkB w) = n.f0 := (path_name a (mkB w) g1).trans g3.symm
        have hgood : badP (a ++ (⟨#[47]⟩ : ByteArray) ++ mkB w) = false := by
          rw [← Bool.not_eq_true, badP_eq] at h2 ⊢
          rw [data_append, data_append, mkB_data]
          rintro (e | e)
          · simp at e
          · rcases List.mem_append.1 e with e | e
            · rcases List.mem_append.1 e with e | e
              · exact h2 (.inr e)
              · exact absurd e (by decide)
            · exact g4 e
        refine ⟨_, kind_some ht (by omega), ?_⟩
        unfold kindB
        rw [ask_good h1 hgood, if_pos rfl]
        dsimp only
        rw [hpath, kind_hit hs (node_told h1 hn).2.2 hn rfl]
        split <;> decide
      have hord : ∀ i (h : i + 1 < L.length), Op.bytesLess (L[i]).toList (L[i + 1]).toList = true := fun i h => by
        rw [bytesLess_eq, decide_eq_true_eq, Lib.toList_data, Lib.toList_data]
        have q1 := List.pairwise_iff_getElem.1 hLs i (i + 1) (by omega) h (by omega)
        have q2 := List.pairwise_iff_getElem.1 hLn i (i + 1) (by omega) h (by omega)
        exact tri7 _ _ (List.not_lt.2 q1) (fun e => q2 (toB e.symm))
      have hszL : ∀ x ∈ L, x.size ≤ 1099511627776 := fun x hx => by
        obtain ⟨n, hn, hd, he⟩ := mem_names.1 ((hmem x).1 hx)
        have h5 := h20 n hn
        have h6 := congrArg ByteArray.size he
        unfold nameB at h6
        rw [ByteArray.size_extract] at h6
        omega
      obtain ⟨K0, hK0⟩ : ∃ K0, K = K0 + L.length + 1 := ⟨K - L.length - 1, by omega⟩
      have hloop := law_loop t a L (by omega) ha hszL (some true) K0 (L.any (fun x => x.toList == [122, 122, 57])) hkinds hord ?_ L.length 0 false (by omega) (by rw [List.drop_zero, Bool.false_or])
      · rw [hK0]
        exact hloop
      -- behind the names
      intro k
      have hP : (a ++ (⟨#[47, 122, 122, 57]⟩ : ByteArray)).data.toList = a.data.toList ++ 47 :: zz9.data.toList := by rw [data_append]; rfl
      have hPs : (a ++ (⟨#[47, 122, 122, 57]⟩ : ByteArray)).size = a.size + 4 := by rw [ByteArray.size_append]; rfl
      have hPp : pathB (a ++ (⟨#[47, 122, 122, 57]⟩ : ByteArray)) = mkB (Path.pathL (Path.partsL a.data.toList ++ [zz9.data.toList])) := by
        apply toB
        rw [path_data, hP, parts_name _ _ zz_good]
        rfl
      have hPb : badP (a ++ (⟨#[47, 122, 122, 57]⟩ : ByteArray)) = false := by
        rw [← Bool.not_eq_true, badP_eq] at h2 ⊢
        rw [hP]
        rintro (e | e)
        · simp at e
        · rcases List.mem_append.1 e with e | e
          · exact h2 (.inr e)
          · exact absurd e (by decide)
      have hgq : ∀ x ∈ Path.partsL a.data.toList ++ [zz9.data.toList], Path.Good x := fun x hx => by
        rcases List.mem_append.1 hx with hx | hx
        · exact good a x hx
        · rw [List.mem_singleton.1 hx]; exact zz_good
      have hdq : dirB (pathB (a ++ (⟨#[47, 122, 122, 57]⟩ : ByteArray))) = pathB a := by
        rw [hPp, dir_path _ hgq, List.dropLast_concat]
        rfl
      have hPd : (pathB (a ++ (⟨#[47, 122, 122, 57]⟩ : ByteArray))).data.toList = Path.pathL (Path.partsL a.data.toList ++ [zz9.data.toList]) := by rw [hPp]; rfl
      rw [← hPd] at hzz
      have hKd : kindOf t (dirB (pathB (a ++ (⟨#[47, 122, 122, 57]⟩ : ByteArray)))) = 2 := by rw [hdq]; exact hk
      have e0 : (⟨#[]⟩ : ByteArray).size = 0 := rfl
      rw [cowrielaw07_TreeLists.l0, if_neg (by omega), if_pos (by omega), Put_some7 ht (by omega) (by omega), Option.bind_some]
      rcases Put_cases t (a ++ (⟨#[47, 122, 122, 57]⟩ : ByteArray)) ⟨#[]⟩ with ⟨g1, g2⟩ | ⟨_, _, g3, _, g5, g6, g7⟩
      · rw [num_ok, Option.bind_some, if_neg g2]
        by_cases hq : kindOf t (pathB (a ++ (⟨#[47, 122, 122, 57]⟩ : ByteArray))) = 2
        · have : L.any (fun x => x.toList == [122, 122, 57]) = true := hzz.2 (by
            by_cases he : ∃ n ∈ t, pk n = (pathB (a ++ (⟨#[47, 122, 122, 57]⟩ : ByteArray))).data.toList
            · exact he
            · have h47 : (pathB (a ++ (⟨#[47, 122, 122, 57]⟩ : ByteArray))).data.toList ≠ [47] := fun e => by
                have := Path.partsL_path _ hgq
                rw [← hPd, e] at this
                have h9 := congrArg List.length this
                rw [List.length_append] at h9
                have h10 : (Path.partsL [47]).length = 0 := by decide
                simp at h9
                omega
              have := kind_miss hs h47 (fun n hn e => he ⟨n, hn, e⟩)
              rw [hq] at this
              cases this)
          rw [this]
          split <;> rfl
        · have h256 : t.length = 256 := by
            have hwt := with_total t ⟨pathB (a ++ (⟨#[47, 122, 122, 57]⟩ : ByteArray)), false, ⟨#[]⟩⟩
            have hwl := with_len t ⟨pathB (a ++ (⟨#[47, 122, 122, 57]⟩ : ByteArray)), false, ⟨#[]⟩⟩
            unfold PutB at g2
            rw [ask_good h1 hPb, if_pos rfl] at g2
            dsimp only at g2 hwt
            rw [if_neg hq] at g2
            unfold putB at g2
            dsimp only at g2
            rw [hKd, if_neg (by decide), if_neg (by decide)] at g2
            by_cases hz : 256 < (withB t ⟨pathB (a ++ (⟨#[47, 122, 122, 57]⟩ : ByteArray)), false, ⟨#[]⟩⟩).length ∨ 65536 < total (withB t ⟨pathB (a ++ (⟨#[47, 122, 122, 57]⟩ : ByteArray)), false, ⟨#[]⟩⟩)
            · omega
            · rw [if_neg hz] at g2
              exact absurd rfl g2
          rw [if_pos (by omega)]
      · rw [g7, num_ok, Option.bind_some]
        dsimp only
        have cx := with_check (x := ⟨#[]⟩) h1 hPb g3 hKd g5 g6
        have hps := path_size (a ++ (⟨#[47, 122, 122, 57]⟩ : ByteArray))
        have fx := with_fits ht g5 g6 (by show (pathB (a ++ (⟨#[47, 122, 122, 57]⟩ : ByteArray))).size ≤ _; omega)
        have kx : kindOf (withB t ⟨pathB (a ++ (⟨#[47, 122, 122, 57]⟩ : ByteArray)), false, ⟨#[]⟩⟩) (pathB a) = 2 := by
          rw [with_kind hs ⟨pathB (a ++ (⟨#[47, 122, 122, 57]⟩ : ByteArray)), false, ⟨#[]⟩⟩ (q := pathB a) (fun e => g3 (by rw [show pathB (a ++ (⟨#[47, 122, 122, 57]⟩ : ByteArray)) = pathB a from toB e]; exact hk))]
          exact hk
        have hlx : listB (withB t ⟨pathB (a ++ (⟨#[47, 122, 122, 57]⟩ : ByteArray)), false, ⟨#[]⟩⟩) a = (srt (namesB (withB t ⟨pathB (a ++ (⟨#[47, 122, 122, 57]⟩ : ByteArray)), false, ⟨#[]⟩⟩) (pathB a)), 0) := by
          unfold listB
          rw [ask_good cx h2, if_pos rfl]
          dsimp only
          rw [kx, if_neg (by decide), if_neg (by decide)]
        rw [if_pos rfl, List_some fx ha _ (by omega), Option.bind_some, hlx, num_ok, Option.bind_some, if_pos rfl]
        dsimp only
        rw [srt_length]
        have hbs := (found_iff hs (pathB (a ++ (⟨#[47, 122, 122, 57]⟩ : ByteArray)))).1
        by_cases hb : bsIs t (pathB (a ++ (⟨#[47, 122, 122, 57]⟩ : ByteArray))) = true
        · rw [hzz.2 (hbs.1 hb), if_pos rfl, names_same (n := ⟨pathB (a ++ (⟨#[47, 122, 122, 57]⟩ : ByteArray)), false, ⟨#[]⟩⟩) (pathB a) hb, if_pos (by omega)]
        · have hf : L.any (fun x => x.toList == [122, 122, 57]) = false := by
            rw [← Bool.not_eq_true, hzz, ← hbs]
            exact hb
          rw [hf, if_neg (by simp), names_more (n := ⟨pathB (a ++ (⟨#[47, 122, 122, 57]⟩ : ByteArray)), false, ⟨#[]⟩⟩) (pathB a) hb (by dsimp only; rw [hdq]), w1 _ (by omega), hLl]
          simp
end Go.Proofs.YtdfddiehiiaepaaDoor.PureT7

/- Proved: the page's Put and Remove are those of the program. Conditions: a tree that fits, texts of at most 2 to the 20 octets. -/
import Derived.Test.YtdfddiehiiaepaaGreatDoorVtP3
import Derived.Test.YtdfddiehiiaepaaGreatDoorVtRefCheck
import Derived.Test.YtdfddiehiiaepaaGreatDoorVtPureTreePuts
set_option linter.unusedVariables false
set_option linter.unusedSimpArgs false
namespace Go.Proofs.YtdfddiehiiaepaaGreatDoor.PureT7
open Go.RowKit Go.Proofs.YtdfddiehiiaepaaGreatDoor.P Go.Proofs.YtdfddiehiiaepaaGreatDoor.Ext Go.Proofs.YtdfddiehiiaepaaGreatDoorW.PrintWords
/-- The page's way of a tree with a node. -/
def wL (n : S73) : List S73 → Bool → List S73
  | [], done => if done = true then [] else [n]
  | m :: t, done => (if done = true then [] else if Op.bytesLess (pk m) (pk n) = true then [] else [n]) ++ ((if pk m = pk n then [] else [m]) ++ wL n t (done || !Op.bytesLess (pk m) (pk n)))
theorem with_loop (t : List S73) (hl : t.length ≤ 1099511627776) (n : S73) : ∀ (d i K : Nat) (out : List S73) (done : Bool), i + d = t.length → out.length ≤ 2 * i → 2 * d + 1 ≤ K →
    cowrieref07_with.l0 K t out done i n.f0 n.f1 n.f2 = some (out ++ wL n (t.drop i) done)
  | 0, i, K, out, done, hd, ho, hK => by
    obtain ⟨K, rfl⟩ : ∃ k, K = k + 1 := ⟨K - 1, by omega⟩
    unfold cowrieref07_with.l0
    rw [if_neg (by omega), List.drop_of_length_le (by omega)]
    cases done
    · rw [if_neg (by simp), if_pos (by omega)]
      rfl
    · rw [if_pos rfl]
      simp [wL]
  | d + 1, i, K, out, done, hd, ho, hK => by
    obtain ⟨K, rfl⟩ : ∃ k, K = k + 1 + 1 := ⟨K - 2, by omega⟩
    have hil : i < t.length := by omega
    have hrd := rd_get hil
    unfold cowrieref07_with.l0
    rw [if_pos (by omega), List.drop_eq_getElem_cons hil, wL]
    have e1 : ((t[i]).f0.toList = n.f0.toList) = (pk t[i] = pk n) := by rw [Lib.toList_data, Lib.toList_data]; rfl
    have e2 : Op.bytesLess (t[i]).f0.toList n.f0.toList = Op.bytesLess (pk t[i]) (pk n) := by rw [Lib.toList_data, Lib.toList_data]; rfl
    have hF : ∀ out' : List S73, out'.length ≤ 2 * i → cowrieref07_with.j1 (K + 1) t out' done i false n.f0 n.f1 n.f2 = some (out' ++ ((if pk t[i] = pk n then [] else [t[i]]) ++ wL n (t.drop (i + 1)) done)) := fun out' ho' => by
      unfold cowrieref07_with.j1
      rw [if_neg (by simp), if_pos (by omega), if_pos (by omega), hrd, w1 i (by omega)]
      simp only [e1]
      by_cases h : pk t[i] = pk n
      · rw [if_pos h, if_pos h, with_loop t hl n d (i + 1) K out' done (by omega) (by omega) (by omega)]
        rfl
      · rw [if_neg h, if_neg h, if_pos (by omega), with_loop t hl n d (i + 1) K _ done (by omega) (by simp; omega) (by omega)]
        simp
    cases done
    · rw [if_neg (by simp), if_pos (by omega), hrd, e2]
      cases hb : Op.bytesLess (pk t[i]) (pk n)
      · unfold cowrieref07_with.j1
        rw [Bool.not_false, if_pos rfl, if_pos (by omega), Option.bind_some, if_pos (by omega), if_pos (by omega), hrd, w1 i (by omega)]
        simp only [e1]
        by_cases h : pk t[i] = pk n
        · rw [if_pos h, if_pos h, with_loop t hl n d (i + 1) K _ true (by omega) (by simp; omega) (by omega)]
          simp
        · rw [if_neg h, if_neg h, if_pos (by simp; omega), with_loop t hl n d (i + 1) K _ true (by omega) (by simp; omega) (by omega)]
          simp
      · rw [Bool.not_true, hF out ho]
        simp
    · rw [if_pos rfl, hF out ho]
      simp
theorem wl_true (n : S73) : ∀ t : List S73, (∀ m ∈ t, pk m ≠ pk n) → wL n t true = t
  | [], _ => rfl
  | m :: t, h => by
    rw [wL, if_pos rfl, if_neg (h m (by simp)), Bool.true_or, wl_true n t (fun x hx => h x (List.mem_cons_of_mem _ hx))]
    rfl
theorem wl_low (n : S73) (b : List S73) : ∀ a : List S73, (∀ m ∈ a, pk m < pk n) → wL n (a ++ b) false = a ++ wL n b false
  | [], _ => rfl
  | m :: a, h => by
    have hm := h m (by simp)
    have hne : pk m ≠ pk n := fun e => by rw [e] at hm; exact lt_irr7 _ hm
    have hb : Op.bytesLess (pk m) (pk n) = true := by rw [bytesLess_eq]; exact decide_eq_true hm
    rw [List.cons_append, wL, if_neg (by simp), hb, if_pos rfl, if_neg hne, Bool.not_true, Bool.or_false, wl_low n b a (fun x hx => h x (List.mem_cons_of_mem _ hx))]
    rfl
theorem wl_with {t : List S73} (hs : Sorted t) (n : S73) : wL n t false = withB t n := by
  obtain ⟨h1, h2, h3⟩ := bs_spec hs n.f0
  have hlow : ∀ m ∈ t.take (bs t n.f0), pk m < pk n := fun m hm => by
    obtain ⟨j, hj, rfl⟩ := List.getElem_of_mem hm
    rw [List.length_take] at hj
    have := h2 j (by omega)
    rw [rd_get (by omega)] at this
    rw [List.getElem_take]
    exact this
  have e : wL n t false = t.take (bs t n.f0) ++ wL n (t.drop (bs t n.f0)) false := by
    conv => lhs; rw [← List.take_append_drop (bs t n.f0) t]
    exact wl_low n _ _ hlow
  rw [e]
  unfold withB
  by_cases hlt : bs t n.f0 < t.length
  · have hup := h3 (bs t n.f0) (Nat.le_refl _) hlt
    rw [rd_get hlt] at hup
    have hb : Op.bytesLess (pk t[bs t n.f0]) (pk n) = false := by rw [bytesLess_eq]; exact decide_eq_false hup
    have hrest : ∀ m ∈ t.drop (bs t n.f0 + 1), pk m ≠ pk n := fun m hm e => by
      obtain ⟨j, hj, rfl⟩ := List.getElem_of_mem hm
      rw [List.length_drop] at hj
      rw [List.getElem_drop] at e
      have := List.pairwise_iff_getElem.1 hs (bs t n.f0) (bs t n.f0 + 1 + j) hlt (by omega) (by omega)
      rw [e] at this
      exact hup this
    rw [List.drop_eq_getElem_cons hlt, wL, if_neg (by simp), hb, if_neg (by simp), Bool.not_false, Bool.or_true, wl_true n _ hrest]
    by_cases he : pk t[bs t n.f0] = pk n
    · have hi : bsIs t n.f0 = true := ((found_iff hs n.f0).2 _ (List.getElem_mem hlt) he).1
      rw [if_pos he, if_pos hi, List.set_eq_take_append_cons_drop, if_pos hlt]
      rfl
    · have hi : ¬ bsIs t n.f0 = true := fun h => he (is_at h).2
      rw [if_neg he, if_neg hi]
      rfl
  · have hi : ¬ bsIs t n.f0 = true := fun h => hlt (is_at h).1
    rw [if_neg hi, List.drop_of_length_le (by omega)]
    rfl
theorem fits_loop (t : List S73) (hl : t.length ≤ 1099511627777) (htt : total t ≤ 4398046511104) : ∀ (d i K : Nat), i + d = t.length → d + 1 ≤ K →
    cowrieref07_fits.l0 K t ((total (t.take i) : Nat) : Int) i = some (if 256 < t.length ∨ 65536 < total t then ([], 17) else (t, 0))
  | 0, i, K, hd, hK => by
    obtain ⟨K, rfl⟩ : ∃ k, K = k + 1 := ⟨K - 1, by omega⟩
    unfold cowrieref07_fits.l0
    rw [if_neg (by omega), List.take_of_length_le (by omega)]
    by_cases h1 : 256 < t.length
    · rw [if_pos (by omega), if_pos (.inl h1)]
    · rw [if_neg (by omega)]
      by_cases h2 : 65536 < total t
      · rw [if_pos (by omega), if_pos (.inr h2)]
      · rw [if_neg (by omega), if_neg (by omega)]
  | d + 1, i, K, hd, hK => by
    obtain ⟨K, rfl⟩ : ∃ k, K = k + 1 := ⟨K - 1, by omega⟩
    have hil : i < t.length := by omega
    have htk := total_take_succ hil
    have htl : total (t.take (i + 1)) ≤ total t := by
      have := total_cut t (i + 1)
      omega
    unfold cowrieref07_fits.l0
    rw [if_pos (by omega), if_pos (by omega), rd_get hil, w1 i (by omega), show wrap64 (((total (t.take i) : Nat) : Int) + ((t[i]).f2.size : Int)) = ((total (t.take (i + 1)) : Nat) : Int) by rw [htk]; unfold wrap64; omega]
    exact fits_loop t hl htt d (i + 1) K (by omega) (by omega)
theorem ref_put (t : List S73) (ht : fitsT t = true) (a x : ByteArray) (ha : a.size ≤ 1048576) (hx : x.size ≤ 4194304) (K : Nat) (hK : 9000000000000 ≤ K) : cowrieref07_Put.f K t a x = some (PutB t a x) := by
  have hps := path_size a
  obtain ⟨hl, htt⟩ : t.length ≤ 1099511627776 ∧ total t ≤ 1099511627776 := by
    unfold fitsT at ht
    simp only [Bool.and_eq_true, decide_eq_true_eq] at ht
    exact ht.1
  unfold cowrieref07_Put.f PutB
  rw [ref_ask t ht a ha K hK, Option.bind_some]
  rcases ask_cases t a with h | ⟨h1, h2⟩
  · rw [if_neg h, if_neg h]
  · have hs := ((check_iff t).1 h1).1
    rw [ask_good h1 h2, if_pos rfl, if_pos rfl]
    dsimp only
    obtain ⟨r, k1, k2⟩ := ref_kind t hl (pathB a) K (by omega)
    rw [k1, Option.bind_some, k2 hs]
    by_cases hk : kindOf t (pathB a) = 2
    · rw [if_pos hk, if_pos hk]
    · rw [if_neg hk, if_neg hk, ref_room t ht hs (pathB a) (by omega) (path_self a) K hK, Option.bind_some]
      unfold putB
      dsimp only
      have hwt := with_total t ⟨pathB a, false, x⟩
      have hwl := with_len t ⟨pathB a, false, x⟩
      dsimp only at hwt
      have hwith : cowrieref07_with.f K t (pathB a) false x = some (withB t ⟨pathB a, false, x⟩) := by
        unfold cowrieref07_with.f
        have := with_loop t hl ⟨pathB a, false, x⟩ t.length 0 K [] false (by omega) (by simp) (by omega)
        rw [List.drop_zero, wl_with hs] at this
        exact this
      rcases kind_cases t (dirB (pathB a)) with hd | hd | hd
      · rw [hd, if_pos rfl, if_pos rfl, if_neg (by decide)]
      · rw [hd, if_neg (by decide), if_neg (by decide), if_pos rfl, if_pos rfl, if_neg (by decide)]
      · rw [hd, show (if (2 : Int) = 0 then (71 : Int) else if (2 : Int) = 1 then 16 else 0) = 0 from rfl, if_pos rfl, if_neg (by decide), if_neg (by decide), hwith, Option.bind_some]
        have := fits_loop (withB t ⟨pathB a, false, x⟩) (by omega) (by omega) _ 0 K (Nat.zero_add _) (by omega)
        unfold cowrieref07_fits.f
        rw [List.take_zero] at this
        refine (congrArg (fun o : Option (List S73 × Int) => o.bind fun bt => some (bt.1, bt.2)) this).trans ?_
        rfl
theorem ref_under (q p : ByteArray) (hq : q.size ≤ 1099511627776) : ∃ b, cowrieref07_under.f q p = some b ∧ (b = true ↔ Under p.data.toList q.data.toList) := by
  have hql := Lib.size_eq q
  have hpl := Lib.size_eq p
  unfold cowrieref07_under.f Under
  rw [Lib.toList_data, Lib.toList_data]
  by_cases h : q.data.toList = p.data.toList
  · rw [if_pos h]
    exact ⟨true, rfl, by simp [h]⟩
  · rw [if_neg h]
    by_cases hlt : p.size < q.size
    · have hil : p.size < q.data.toList.length := by omega
      have hx : (q.extract 0 (((p.size : Nat) : Int)).toNat).toList = q.data.toList.take p.size := by rw [Lib.extract_toList, Int.toNat_natCast, List.drop_zero, Nat.sub_zero]
      rw [if_pos (by omega), if_pos (by omega), if_pos (by omega), hx]
      by_cases h2 : q.data.toList.take p.size = p.data.toList
      · rw [if_pos h2, if_pos (by omega)]
        refine ⟨_, rfl, ?_⟩
        rw [beq_iff_eq]
        have hb := bt_is q p.size hil 47
        rw [show ((47 : UInt8).toNat : Int) = 47 from rfl] at hb
        rw [hb]
        constructor
        · intro h3
          refine .inr ⟨q.data.toList.drop (p.size + 1), ?_⟩
          conv => rhs; rw [← List.take_append_drop p.size q.data.toList, List.drop_eq_getElem_cons hil, h2, h3]
          simp
        · rintro (h3 | ⟨r, h3⟩)
          · exact absurd h3 h
          · have h4 : q.data.toList[p.size]? = some 47 := by
              rw [← h3, hpl, List.append_assoc, List.getElem?_append_right (Nat.le_refl _)]
              simp
            rw [List.getElem?_eq_getElem hil] at h4
            exact Option.some.inj h4
      · rw [if_neg h2]
        refine ⟨false, rfl, ⟨fun e => absurd e (by decide), ?_⟩⟩
        rintro (h3 | ⟨r, h3⟩)
        · exact absurd h3 h
        · exact absurd (by rw [← h3, hpl, List.append_assoc, List.take_left]) h2
    · rw [if_neg (by omega)]
      refine ⟨false, rfl, ⟨fun e => absurd e (by decide), ?_⟩⟩
      rintro (h3 | h3)
      · exact absurd h3 h
      · have := h3.length_le
        simp at this
        omega
theorem remove_loop (t : List S73) (hl : t.length ≤ 1099511627776) (hsz : ∀ n ∈ t, n.f0.size ≤ 1099511627776) (p : ByteArray) : ∀ (d i K : Nat) (out : List S73), i + d = t.length → out.length ≤ i → d + 1 ≤ K →
    cowrieref07_Remove.l0 K t p out i = some (out ++ (t.drop i).filter (fun n => !underB p n), 0)
  | 0, i, K, out, hd, ho, hK => by
    obtain ⟨K, rfl⟩ : ∃ k, K = k + 1 := ⟨K - 1, by omega⟩
    unfold cowrieref07_Remove.l0
    rw [if_neg (by omega), List.drop_of_length_le (by omega)]
    simp
  | d + 1, i, K, out, hd, ho, hK => by
    obtain ⟨K, rfl⟩ : ∃ k, K = k + 1 := ⟨K - 1, by omega⟩
    have hil : i < t.length := by omega
    obtain ⟨b, h1, h2⟩ := ref_under (t[i]).f0 p (hsz _ (List.getElem_mem hil))
    unfold cowrieref07_Remove.l0
    rw [if_pos (by omega), if_pos (by omega), rd_get hil, h1, Option.bind_some, w1 i (by omega), List.drop_eq_getElem_cons hil, List.filter_cons]
    have hu := under_iff p t[i]
    by_cases hb : b = true
    · have : underB p t[i] = true := hu.2 (h2.1 hb)
      rw [if_pos hb, this, remove_loop t hl hsz p d (i + 1) K out (by omega) (by omega) (by omega)]
      simp
    · have : underB p t[i] = false := by
        rw [← Bool.not_eq_true, hu]
        exact fun e => hb (h2.2 e)
      rw [if_neg hb, if_pos (by omega), this, remove_loop t hl hsz p d (i + 1) K _ (by omega) (by simp; omega) (by omega)]
      simp
theorem ref_remove (t : List S73) (ht : fitsT t = true) (a : ByteArray) (all : Bool) (ha : a.size ≤ 1048576) (K : Nat) (hK : 9000000000001 ≤ K) : cowrieref07_Remove.f K t a all = some (removeB t a all) := by
  obtain ⟨K, rfl⟩ : ∃ k, K = k + 1 := ⟨K - 1, by omega⟩
  obtain ⟨hl, hsz⟩ : t.length ≤ 1099511627776 ∧ ∀ n ∈ t, n.f0.size ≤ 1099511627776 := by
    unfold fitsT at ht
    simp only [Bool.and_eq_true, decide_eq_true_eq, List.all_eq_true] at ht
    exact ⟨ht.1.1, ht.2⟩
  have hj : ∀ p, cowrieref07_Remove.j0 (K + 1) t p = some (t.filter (fun n => !underB p n), 0) := fun p => by
    unfold cowrieref07_Remove.j0
    have := remove_loop t hl hsz p t.length 0 K [] (by omega) (by simp) (by omega)
    rw [List.drop_zero] at this
    exact this
  unfold cowrieref07_Remove.f removeB
  rw [ref_ask t ht a ha (K + 1) (by omega), Option.bind_some]
  rcases ask_cases t a with h | ⟨h1, h2⟩
  · rw [if_neg h, if_neg h]
  · have hs := ((check_iff t).1 h1).1
    rw [ask_good h1 h2, if_pos rfl, if_pos rfl]
    dsimp only
    obtain ⟨r, k1, k2⟩ := ref_kind t hl (pathB a) (K + 1) (by omega)
    rw [k1, Option.bind_some, k2 hs]
    by_cases hk0 : kindOf t (pathB a) = 0
    · rw [if_pos hk0, if_pos hk0]
    · rw [if_neg hk0, if_neg hk0]
      by_cases h47 : (pathB a).toList = [47]
      · rw [if_pos h47, if_pos (c := ((pathB a).toList == [47]) = true) (by simpa using h47)]
      · rw [if_neg h47, if_neg (c := ((pathB a).toList == [47]) = true) (by simpa using h47)]
        by_cases hk : kindOf t (pathB a) = 2
        · rw [if_pos hk]
          cases all
          · rw [if_neg (by simp), if_pos ⟨hk, rfl⟩]
          · rw [if_pos rfl, if_neg (by simp), hj]
        · rw [if_neg hk, if_neg (fun h => hk h.1), hj]
end Go.Proofs.YtdfddiehiiaepaaGreatDoor.PureT7

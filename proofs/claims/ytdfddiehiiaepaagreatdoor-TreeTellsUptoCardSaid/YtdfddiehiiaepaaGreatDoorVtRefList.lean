/- Proved: the page's Get, Add, Mkdir, List and Kind are those of the program. Conditions: a tree that fits, texts of at most 2 to the 20 octets. -/
import Derived.Test.YtdfddiehiiaepaaGreatDoorVtP2
import Derived.Test.YtdfddiehiiaepaaGreatDoorVtP3
import Derived.Test.YtdfddiehiiaepaaGreatDoorVtP4
import Derived.Test.YtdfddiehiiaepaaGreatDoorVtNames
import Derived.Test.YtdfddiehiiaepaaGreatDoorVtSortRef
set_option linter.unusedVariables false
set_option linter.unusedSimpArgs false
namespace Go.Proofs.YtdfddiehiiaepaaGreatDoor.PureT7
open Go.RowKit Go.Proofs.YtdfddiehiiaepaaGreatDoor.P Go.Proofs.YtdfddiehiiaepaaGreatDoor.Ext Go.Proofs.YtdfddiehiiaepaaGreatDoorW.PrintWords
theorem ref_get (t : List S73) (ht : fitsT t = true) (a : ByteArray) (ha : a.size ≤ 1048576) (K : Nat) (hK : 9000000000000 ≤ K) : cowrieref07_Get.f K t a = some (getB t a) := by
  have hl := fits_len ht
  unfold cowrieref07_Get.f getB
  rw [ref_ask t ht a ha K hK, Option.bind_some]
  rcases ask_cases t a with h | ⟨h1, h2⟩
  · rw [if_neg h, if_neg h]
  · have hs := ((check_iff t).1 h1).1
    rw [ask_good h1 h2, if_pos rfl, if_pos rfl]
    dsimp only
    obtain ⟨r, k1, k2⟩ := ref_kind t hl (pathB a) K (by omega)
    rw [k1, Option.bind_some, k2 hs]
    rcases kind_cases t (pathB a) with hk | hk | hk
    · rw [hk, if_pos rfl, if_pos rfl]
    · obtain ⟨hlt, hb⟩ := kind_one hk
      rw [hk, if_neg (by decide), if_neg (by decide), if_neg (by decide), if_neg (by decide)]
      obtain ⟨r', f1, f2⟩ := find_loop t hl (pathB a) t.length 0 K (by omega) (by omega)
      unfold cowrieref07_find.f
      have f1' : cowrieref07_find.l0 K t (pathB a) 0 = some r' := f1
      rw [f1', Option.bind_some]
      rcases f2 with ⟨_, f3⟩ | ⟨j, rfl, hj, f3⟩
      · obtain ⟨hlt', he⟩ := is_at hb
        rw [List.drop_zero] at f3
        exact absurd he (f3 _ (List.getElem_mem hlt'))
      · rw [if_pos (by omega), if_pos (by omega), rd_get hj, ((found_iff hs (pathB a)).2 _ (List.getElem_mem hj) f3).2]
    · rw [hk, if_neg (by decide), if_pos rfl, if_neg (by decide), if_pos rfl]
theorem ref_kindK (t : List S73) (ht : fitsT t = true) (a : ByteArray) (ha : a.size ≤ 1048576) (K : Nat) (hK : 9000000000000 ≤ K) : cowrieref07_Kind.f K t a = some (kindB t a) := by
  have hl := fits_len ht
  unfold cowrieref07_Kind.f kindB
  rw [ref_ask t ht a ha K hK, Option.bind_some]
  rcases ask_cases t a with h | ⟨h1, h2⟩
  · rw [if_neg h, if_neg h]
  · have hs := ((check_iff t).1 h1).1
    rw [ask_good h1 h2, if_pos rfl, if_pos rfl]
    dsimp only
    obtain ⟨r, k1, k2⟩ := ref_kind t hl (pathB a) K (by omega)
    rw [k1, Option.bind_some, k2 hs]
theorem mem_total : ∀ {t : List S73} {n : S73}, n ∈ t → n.f2.size ≤ total t
  | [], n, h => by simp at h
  | m :: t, n, h => by
    rw [total_cons]
    rcases List.mem_cons.1 h with rfl | h
    · omega
    · have := mem_total h
      omega
theorem get_size {t : List S73} (a : ByteArray) : (getB t a).1.size ≤ 65536 := by
  unfold getB
  rcases ask_cases t a with h | ⟨h1, h2⟩
  · rw [if_neg h]
    exact Nat.zero_le _
  · rw [ask_good h1 h2, if_pos rfl]
    dsimp only
    rcases kind_cases t (pathB a) with hk | hk | hk
    · rw [hk, if_pos rfl]
      exact Nat.zero_le _
    · obtain ⟨hlt, hb⟩ := kind_one hk
      rw [hk, if_neg (by decide), if_neg (by decide), rd_get hlt]
      exact Nat.le_trans (mem_total (List.getElem_mem hlt)) ((check_iff t).1 h1).2.2.1
    · rw [hk, if_neg (by decide), if_pos rfl]
      exact Nat.zero_le _
/-- With more of a file. -/
def AddB (t : List S73) (a x : ByteArray) : List S73 × Int := if (getB t a).2 = 0 ∨ (getB t a).2 = 71 then PutB t a ((getB t a).1 ++ x) else ([], (getB t a).2)
theorem Add_some {t : List S73} {a x : ByteArray} (ht : fitsT t = true) (ha : a.size ≤ 1048576) (hx : x.size ≤ 1048576) : tree_Add.f t a x = some (AddB t a x) := by
  have hg := get_size (t := t) a
  have hsz : ((getB t a).1 ++ x).size = (getB t a).1.size + x.size := ByteArray.size_append
  unfold tree_Add.f AddB
  rw [get_some ht (by omega), Option.bind_some, Put_some ht ha (by omega), Option.bind_some]
  by_cases h0 : (getB t a).2 = 0
  · rw [if_pos h0, if_pos (by omega), if_pos (.inl h0)]
  · rw [if_neg h0]
    by_cases h1 : (getB t a).2 = 71
    · rw [if_pos h1, if_pos (by omega), if_pos (.inr h1)]
    · rw [if_neg h1, if_neg (fun h => h.elim h0 h1)]
theorem ref_add (t : List S73) (ht : fitsT t = true) (a x : ByteArray) (ha : a.size ≤ 1048576) (hx : x.size ≤ 1048576) (K : Nat) (hK : 9000000000000 ≤ K) : cowrieref07_Add.f K t a x = some (AddB t a x) := by
  have hg := get_size (t := t) a
  have hsz : ((getB t a).1 ++ x).size = (getB t a).1.size + x.size := ByteArray.size_append
  unfold cowrieref07_Add.f AddB
  rw [ref_get t ht a ha K hK, Option.bind_some, ref_put t ht a _ ha (by omega) K hK, Option.bind_some]
  by_cases h0 : (getB t a).2 = 0
  · rw [if_pos h0, if_pos (by omega), if_pos (.inl h0)]
  · rw [if_neg h0]
    by_cases h1 : (getB t a).2 = 71
    · rw [if_pos h1, if_pos (by omega), if_pos (.inr h1)]
    · rw [if_neg h1, if_neg (fun h => h.elim h0 h1)]
theorem add_len (t : List S73) (a x : ByteArray) : (AddB t a x).1.length ≤ 256 := by
  unfold AddB
  split
  · exact put_len t a _
  · simp
/-- With a directory. -/
def MkdirB (t : List S73) (a : ByteArray) : List S73 × Int :=
  if (askB t a).2 = 0 then (if kindOf t (askB t a).1 = 0 then putB t ⟨(askB t a).1, true, ⟨#[]⟩⟩ else ([], 14)) else ([], (askB t a).2)
theorem Mkdir_some {t : List S73} {a : ByteArray} (ht : fitsT t = true) (ha : a.size ≤ 1048576) : tree_Mkdir.f t a = some (MkdirB t a) := by
  have hl := fits_len ht
  have hps := path_size a
  unfold tree_Mkdir.f MkdirB
  rw [ask_some ht (by omega), Option.bind_some]
  rcases ask_cases t a with h | ⟨h1, h2⟩
  · rw [if_neg h, if_neg h]
  · rw [ask_good h1 h2, if_pos rfl, if_pos rfl]
    dsimp only
    unfold tree_kind.f
    rw [if_pos hl, Option.bind_some]
    by_cases hk : kindOf t (pathB a) = 0
    · rw [if_pos hk, if_pos hk]
      unfold tree_put.f
      rw [if_pos ⟨ht, by omega, by decide, path_head a⟩, Option.bind_some]
    · rw [if_neg hk, if_neg hk]
theorem mkdir_len (t : List S73) (a : ByteArray) : (MkdirB t a).1.length ≤ 256 := by
  unfold MkdirB putB
  split
  · split
    · split
      · simp
      · split
        · simp
        · split
          · simp
          · show (withB t _).length ≤ 256
            omega
    · simp
  · simp
theorem ref_mkdir (t : List S73) (ht : fitsT t = true) (a : ByteArray) (ha : a.size ≤ 1048576) (K : Nat) (hK : 9000000000000 ≤ K) : cowrieref07_Mkdir.f K t a = some (MkdirB t a) := by
  have hps := path_size a
  obtain ⟨hl, htt⟩ : t.length ≤ 1099511627776 ∧ total t ≤ 1099511627776 := by
    unfold fitsT at ht
    simp only [Bool.and_eq_true, decide_eq_true_eq] at ht
    exact ht.1
  unfold cowrieref07_Mkdir.f MkdirB
  rw [ref_ask t ht a ha K hK, Option.bind_some]
  rcases ask_cases t a with h | ⟨h1, h2⟩
  · rw [if_neg h, if_neg h]
  · have hs := ((check_iff t).1 h1).1
    rw [ask_good h1 h2, if_pos rfl, if_pos rfl]
    dsimp only
    obtain ⟨r, k1, k2⟩ := ref_kind t hl (pathB a) K (by omega)
    rw [k1, Option.bind_some, k2 hs]
    by_cases hk : kindOf t (pathB a) = 0
    · rw [if_pos hk, if_pos hk, ref_room t ht hs (pathB a) (by omega) (path_self a) K hK, Option.bind_some]
      unfold putB
      dsimp only
      have hwt := with_total t ⟨pathB a, true, ⟨#[]⟩⟩
      have hwl := with_len t ⟨pathB a, true, ⟨#[]⟩⟩
      have hz : (⟨#[]⟩ : ByteArray).size = 0 := rfl
      dsimp only at hwt
      have hwith : cowrieref07_with.f K t (pathB a) true ⟨#[]⟩ = some (withB t ⟨pathB a, true, ⟨#[]⟩⟩) := by
        unfold cowrieref07_with.f
        have := with_loop t hl ⟨pathB a, true, ⟨#[]⟩⟩ t.length 0 K [] false (by omega) (by simp) (by omega)
        rw [List.drop_zero, wl_with hs] at this
        exact this
      rcases kind_cases t (dirB (pathB a)) with hd | hd | hd
      · rw [hd, if_pos rfl, if_pos rfl, if_neg (by decide)]
      · rw [hd, if_neg (by decide), if_neg (by decide), if_pos rfl, if_pos rfl, if_neg (by decide)]
      · rw [hd, show (if (2 : Int) = 0 then (71 : Int) else if (2 : Int) = 1 then 16 else 0) = 0 from rfl, if_pos rfl, if_neg (by decide), if_neg (by decide), hwith, Option.bind_some]
        have := fits_loop (withB t ⟨pathB a, true, ⟨#[]⟩⟩) (by omega) (by omega) _ 0 K (Nat.zero_add _) (by omega)
        unfold cowrieref07_fits.f
        rw [List.take_zero] at this
        refine (congrArg (fun o : Option (List S73 × Int) => o.bind fun bt => some (bt.1, bt.2)) this).trans ?_
        rfl
    · rw [if_neg hk, if_neg hk]
theorem rlist_loop (t : List S73) (hl : t.length ≤ 1000000) (hc : ∀ n ∈ t, n.f0.size ≤ 1099511627776 ∧ pathB n.f0 = n.f0 ∧ n.f0.data.toList ≠ [47]) (p : ByteArray) (R : List ByteArray) (k0 : Nat) (hS : ∀ k, k0 ≤ k → cowrieref01_Sorted.f k (namesB t p) = some R) :
    ∀ (d i K : Nat) (out : List ByteArray), i + d = t.length → out.length ≤ i → out ++ namesB (t.drop i) p = namesB t p → d + 1 + k0 + 9000000000000 ≤ K → cowrieref07_List.l0 K t p out i = some (R, 0)
  | 0, i, K, out, hd, ho, hout, hK => by
    obtain ⟨K, rfl⟩ : ∃ k, K = k + 1 := ⟨K - 1, by omega⟩
    unfold cowrieref07_List.l0
    rw [if_neg (by omega)]
    rw [List.drop_of_length_le (by omega)] at hout
    have : out = namesB t p := by
      rw [← hout]
      simp [namesB, namesF]
    rw [this, hS K (by omega), Option.bind_some]
  | d + 1, i, K, out, hd, ho, hout, hK => by
    obtain ⟨K, rfl⟩ : ∃ k, K = k + 1 := ⟨K - 1, by omega⟩
    have hil : i < t.length := by omega
    obtain ⟨c1, c2, c3⟩ := hc _ (List.getElem_mem hil)
    rw [List.drop_eq_getElem_cons hil, names_cons] at hout
    unfold cowrieref07_List.l0
    rw [if_pos (by omega), if_pos (by omega), rd_get hil, parts_some _ c1 K (by omega), Option.bind_some, above_told c1 c2 K (by omega), Option.bind_some, w1 i (by omega)]
    by_cases h : (dirB (t[i]).f0).toList = p.toList
    · rw [if_pos h] at hout
      have hg := good (t[i]).f0
      have e : (t[i]).f0 = mkB (Path.pathL (Path.partsL (t[i]).f0.data.toList)) := c2.symm
      have hsum := Path.parts_sum (t[i]).f0.data.toList
      have hsz := Lib.size_eq (t[i]).f0
      rw [if_pos h]
      generalize Path.partsL (t[i]).f0.data.toList = l at *
      rcases List.eq_nil_or_concat l with rfl | ⟨l', w, rfl⟩
      · exact absurd (by rw [e]; rfl) c3
      · rw [List.concat_eq_append] at *
        have hw := hg w (by simp)
        have hlen : ((l' ++ [w]).map mkB).length = l'.length + 1 := by simp
        have hl2 : l'.length ≤ 4398046511104 := by
          have : (l' ++ [w]).length = l'.length + 1 := by simp
          omega
        have hrd : rdOf ByteArray.empty ((l' ++ [w]).map mkB) (l'.length : Int) = nameB (t[i]).f0 := by
          rw [e, name_path _ w hw.2.2.2]
          unfold rdOf
          rw [Int.toNat_natCast, List.getD_eq_getElem?_getD, List.map_append, List.getElem?_append_right (by simp)]
          simp
        rw [hlen, wm1 l'.length hl2, if_pos (by omega), if_pos (by omega), if_pos (by omega), hrd]
        exact rlist_loop t hl hc p R k0 hS d (i + 1) K _ (by omega) (by simp; omega) (by rw [← hout]; simp) (by omega)
    · rw [if_neg h] at hout
      rw [if_neg h]
      exact rlist_loop t hl hc p R k0 hS d (i + 1) K out (by omega) (by omega) hout (by omega)
theorem ref_list (t : List S73) (ht : fitsT t = true) (a : ByteArray) (ha : a.size ≤ 1048576) : ∃ k0, ∀ K, k0 ≤ K → cowrieref07_List.f K t a = some (listB t a) := by
  have hl := fits_len ht
  have hsz : ∀ n ∈ t, n.f0.size ≤ 1099511627776 := by
    unfold fitsT at ht
    simp only [Bool.and_eq_true, decide_eq_true_eq, List.all_eq_true] at ht
    exact ht.2
  rcases ask_cases t a with h | ⟨h1, h2⟩
  · refine ⟨9000000000000, fun K hK => ?_⟩
    unfold cowrieref07_List.f listB
    rw [ref_ask t ht a ha K hK, Option.bind_some, if_neg h, if_neg h]
  · obtain ⟨hs, h256, _, _⟩ := (check_iff t).1 h1
    have hnl := names_len t (pathB a)
    obtain ⟨k0, hk0⟩ := PureS.ref_sorted (namesB t (pathB a)) (by omega)
    refine ⟨t.length + 1 + k0 + 9000000000000, fun K hK => ?_⟩
    unfold cowrieref07_List.f listB
    rw [ref_ask t ht a ha K (by omega), Option.bind_some, ask_good h1 h2, if_pos rfl, if_pos rfl]
    dsimp only
    obtain ⟨r, k1, k2⟩ := ref_kind t hl (pathB a) K (by omega)
    rw [k1, Option.bind_some, k2 hs]
    have hrun := rlist_loop t (by omega) (fun n hn => ⟨hsz n hn, (node_told h1 hn).2.1, (node_told h1 hn).2.2⟩) (pathB a) (srt (namesB t (pathB a))) k0 hk0 t.length 0 K [] (by omega) (by simp) (by rw [List.drop_zero, List.nil_append]) (by omega)
    have hrun' : cowrieref07_List.l0 K t (pathB a) [] 0 = some (srt (namesB t (pathB a)), 0) := hrun
    rcases kind_cases t (pathB a) with hk | hk | hk
    · rw [hk, if_pos rfl, if_pos rfl]
    · rw [hk, if_neg (by decide), if_pos rfl, if_neg (by decide), if_pos rfl]
    · rw [hk, if_neg (by decide), if_neg (by decide), if_neg (by decide), if_neg (by decide), hrun']
end Go.Proofs.YtdfddiehiiaepaaGreatDoor.PureT7

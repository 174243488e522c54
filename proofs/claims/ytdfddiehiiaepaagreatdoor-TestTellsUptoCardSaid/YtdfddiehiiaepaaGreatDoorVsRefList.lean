/- Proved: the page's Get, Add, Mkdir, List and Kind are those of the program. Conditions: a tree that fits, texts of at most 2 to the 20 octets. -/
import Derived.Test.YtdfddiehiiaepaaGreatDoorVsP2
import Derived.Test.YtdfddiehiiaepaaGreatDoorVsP3
import Derived.Test.YtdfddiehiiaepaaGreatDoorVsRefCheck
import Derived.Test.YtdfddiehiiaepaaGreatDoorVsPureTreePuts
import Derived.Test.YtdfddiehiiaepaaGreatDoorVsP4
import Derived.Test.YtdfddiehiiaepaaGreatDoorVsShelf
import Derived.Test.YtdfddiehiiaepaaGreatDoorVsWWords
import Derived.Lib.Hide
import Derived.Sort.OwnSorted
import Derived.Lib.OwnBridge
import Derived.Sort.KeysCollected
set_option linter.unusedVariables false
set_option linter.unusedSimpArgs false
namespace Go.Proofs.YtdfddiehiiaepaaGreatDoor.PureT7
open Go.RowKit Go.Proofs.YtdfddiehiiaepaaGreatDoor.P Go.Proofs.YtdfddiehiiaepaaGreatDoor.Ext Go.Proofs.YtdfddiehiiaepaaGreatDoorW.PrintWords
theorem ref_get (t : List S73) (ht : fitsT t = true) (a : ByteArray) (ha : a.size ≤ 1048576) (K : Nat) (hK : 9000000000000 ≤ K) : cowrieref07_Get.f K t a = some (getB t a) := by
  have hl := fits_len ht
  unfold cowrieref07_Get.f getB
  rw [ref_ask t ht a ha K hK, Option.bind_some]
  rcases ask_cases t a with h | ⟨h1, h2⟩
  · rw [if_neg h, if_neg h]
  · have hs := ((check_iff t).1 h1).1
    rw [ask_good h1 h2, if_pos rfl, if_pos rfl]
    dsimp only
    obtain ⟨r, k1, k2⟩ := ref_kind t hl (pathB a) K (by omega)
    rw [k1, Option.bind_some, k2 hs]
    rcases kind_cases t (pathB a) with hk | hk | hk
    · rw [hk, if_pos rfl, if_pos rfl]
    · obtain ⟨hlt, hb⟩ := kind_one hk
      rw [hk, if_neg (by decide), if_neg (by decide), if_neg (by decide), if_neg (by decide)]
      obtain ⟨r', f1, f2⟩ := find_loop t hl (pathB a) t.length 0 K (by omega) (by omega)
      unfold cowrieref07_find.f
      have f1' : cowrieref07_find.l0 K t (pathB a) 0 = some r' := f1
      rw [f1', Option.bind_some]
      rcases f2 with ⟨_, f3⟩ | ⟨j, rfl, hj, f3⟩
      · obtain ⟨hlt', he⟩ := is_at hb
        rw [List.drop_zero] at f3
        exact absurd he (f3 _ (List.getElem_mem hlt'))
      · rw [if_pos (by omega), if_pos (by omega), rd_get hj, ((found_iff hs (pathB a)).2 _ (List.getElem_mem hj) f3).2]
    · rw [hk, if_neg (by decide), if_pos rfl, if_neg (by decide), if_pos rfl]
theorem ref_kindK (t : List S73) (ht : fitsT t = true) (a : ByteArray) (ha : a.size ≤ 1048576) (K : Nat) (hK : 9000000000000 ≤ K) : cowrieref07_Kind.f K t a = some (kindB t a) := by
  have hl := fits_len ht
  unfold cowrieref07_Kind.f kindB
  rw [ref_ask t ht a ha K hK, Option.bind_some]
  rcases ask_cases t a with h | ⟨h1, h2⟩
  · rw [if_neg h, if_neg h]
  · have hs := ((check_iff t).1 h1).1
    rw [ask_good h1 h2, if_pos rfl, if_pos rfl]
    dsimp only
    obtain ⟨r, k1, k2⟩ := ref_kind t hl (pathB a) K (by omega)
    rw [k1, Option.bind_some, k2 hs]
end Go.Proofs.YtdfddiehiiaepaaGreatDoor.PureT7

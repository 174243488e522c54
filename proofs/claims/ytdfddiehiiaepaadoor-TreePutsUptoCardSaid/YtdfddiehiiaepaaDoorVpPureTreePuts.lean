/- Proved: the plain law of TreePuts: what was put is got; more behind it is behind it; what was removed is not there; all these trees may be. Conditions: a tree that fits, texts of at most 2 to the 20 octets. -/
import Derived.Test.YtdfddiehiiaepaaDoorVpP2
import Derived.Test.YtdfddiehiiaepaaDoorVpTreeWith
set_option linter.unusedVariables false
set_option linter.unusedSimpArgs false
namespace Go.Proofs.YtdfddiehiiaepaaDoor.PureT7
open Go.RowKit Go.Proofs.YtdfddiehiiaepaaDoor.P Go.Proofs.YtdfddiehiiaepaaDoor.Ext Go.Proofs.YtdfddiehiiaepaaDoorW.PrintWords
theorem ask_some {t : List S65} {a : ByteArray} (ht : fitsT t = true) (ha : a.size ≤ 1099511627776) : tree_ask.f t a = some (askB t a) := by
  unfold tree_ask.f
  rw [if_pos ⟨ht, ha⟩]
theorem get_some {t : List S65} {p : ByteArray} (ht : fitsT t = true) (hp : p.size ≤ 1099511627776) : tree_Get.f t p = some (getB t p) := by
  unfold tree_Get.f
  rw [if_pos ⟨ht, hp⟩]
theorem check_some {t : List S65} (ht : fitsT t = true) : tree_Check.f t = some (if checkB t = true then 0 else 9) := by
  unfold tree_Check.f
  rw [if_pos ht]
theorem ask_good {t : List S65} {a : ByteArray} (h : checkB t = true) (ha : badP a = false) : askB t a = (pathB a, 0) := by
  unfold askB
  rw [if_pos h, ha]
  rfl
theorem ask_cases (t : List S65) (a : ByteArray) : (askB t a).2 ≠ 0 ∨ (checkB t = true ∧ badP a = false) := by
  unfold askB
  by_cases h : checkB t = true
  · cases hb : badP a
    · exact .inr ⟨h, rfl⟩
    · rw [if_pos h]
      exact .inl (by simp)
  · rw [if_neg h]
    exact .inl (by simp)
/-- With a file. -/
def PutB (t : List S65) (a d : ByteArray) : List S65 × Int :=
  if (askB t a).2 = 0 then (if kindOf t (askB t a).1 = 2 then ([], 15) else putB t ⟨(askB t a).1, false, d⟩) else ([], (askB t a).2)
theorem Put_some {t : List S65} {a d : ByteArray} (ht : fitsT t = true) (ha : a.size ≤ 1048576) (hd : d.size ≤ 1099511627776) : tree_Put.f t a d = some (PutB t a d) := by
  have hl := fits_len ht
  have hps := path_size a
  unfold tree_Put.f PutB
  rw [ask_some ht (by omega), Option.bind_some]
  rcases ask_cases t a with h | ⟨h1, h2⟩
  · rw [if_neg h, if_neg h]
  · rw [ask_good h1 h2, if_pos rfl, if_pos rfl]
    dsimp only
    unfold tree_kind.f
    rw [if_pos hl, Option.bind_some]
    by_cases hk : kindOf t (pathB a) = 2
    · rw [if_pos hk, if_pos hk]
    · rw [if_neg hk, if_neg hk]
      unfold tree_put.f
      rw [if_pos ⟨ht, by omega, hd, path_head a⟩, Option.bind_some]
theorem Put_cases (t : List S65) (a d : ByteArray) : ((PutB t a d).1 = [] ∧ (PutB t a d).2 ≠ 0) ∨
    (checkB t = true ∧ badP a = false ∧ kindOf t (pathB a) ≠ 2 ∧ kindOf t (dirB (pathB a)) = 2 ∧ (withB t ⟨pathB a, false, d⟩).length ≤ 256 ∧ total (withB t ⟨pathB a, false, d⟩) ≤ 65536 ∧ PutB t a d = (withB t ⟨pathB a, false, d⟩, 0)) := by
  unfold PutB
  rcases ask_cases t a with h | ⟨h1, h2⟩
  · rw [if_neg h]
    exact .inl ⟨rfl, h⟩
  · rw [ask_good h1 h2, if_pos rfl]
    dsimp only
    by_cases hk : kindOf t (pathB a) = 2
    · rw [if_pos hk]
      exact .inl ⟨rfl, by decide⟩
    · rw [if_neg hk]
      unfold putB
      dsimp only
      rcases kind_cases t (dirB (pathB a)) with hd | hd | hd
      · rw [hd, if_pos rfl]
        exact .inl ⟨rfl, by decide⟩
      · rw [hd, if_neg (by decide), if_pos rfl]
        exact .inl ⟨rfl, by decide⟩
      · rw [hd, if_neg (by decide), if_neg (by decide)]
        by_cases hz : 256 < (withB t ⟨pathB a, false, d⟩).length ∨ 65536 < total (withB t ⟨pathB a, false, d⟩)
        · rw [if_pos hz]
          exact .inl ⟨rfl, by decide⟩
        · rw [if_neg hz]
          exact .inr ⟨h1, h2, hk, rfl, by omega, by omega, rfl⟩
/-- What a tree with a file tells. -/
theorem put_facts {t : List S65} {a d : ByteArray} (ht : fitsT t = true) (ha : a.size ≤ 1048576) (h1 : checkB t = true) (h2 : badP a = false) (h3 : kindOf t (pathB a) ≠ 2) (h4 : kindOf t (dirB (pathB a)) = 2)
    (h5 : (withB t ⟨pathB a, false, d⟩).length ≤ 256) (h6 : total (withB t ⟨pathB a, false, d⟩) ≤ 65536) :
    checkB (withB t ⟨pathB a, false, d⟩) = true ∧ fitsT (withB t ⟨pathB a, false, d⟩) = true ∧ kindOf (withB t ⟨pathB a, false, d⟩) (pathB a) = 1 ∧ getB (withB t ⟨pathB a, false, d⟩) a = (d, 0) ∧ (pathB a).data.toList ≠ [47] := by
  have hps := path_size a
  have h47 : (pathB a).data.toList ≠ [47] := fun e => h3 (kind_top t _ e)
  have hc := with_check (x := d) h1 h2 h3 h4 h5 h6
  have hs := ((check_iff t).1 h1).1
  obtain ⟨k1, k2⟩ := with_at hs ⟨pathB a, false, d⟩ h47
  dsimp only at k1 k2
  rw [if_neg (by simp)] at k1
  refine ⟨hc, with_fits ht h5 h6 (by show (pathB a).size ≤ _; omega), k1, ?_, h47⟩
  unfold getB
  rw [ask_good hc h2, if_pos rfl]
  dsimp only
  rw [k1, if_neg (by decide), if_neg (by decide), k2]
theorem j0_puts (K : Nat) (a : ByteArray) (x y z : List S65) (hx : fitsT x = true) (hy : fitsT y = true) (hz : fitsT z = true) (ha : a.size ≤ 1099511627776) (cx : checkB x = true) (cz : checkB z = true) (cy : y = [] ∨ checkB y = true)
    (kz : kindB z a = 0) (kx : kindB x a = 1) : cowrielaw07_TreePuts.j0 (K + 1) a x y z false = some true := by
  simp only [cowrielaw07_TreePuts.j0]
  rw [if_neg (by simp), check_some hx, check_some hz, kind_some hz ha, kind_some hx ha, if_pos cx, if_pos cz, kz, kx]
  simp only [Option.bind_some, num_ok]
  rw [if_pos (by decide +kernel)]
  rcases cy with rfl | cy
  · rw [if_pos (by rfl)]
    rfl
  · by_cases hl : (y.length : Int) = 0
    · rw [if_pos hl]
      rfl
    · rw [if_neg hl, check_some hy, if_pos cy]
      rfl
theorem TreePutsU (t : List S65) (p a b : ByteArray) (ht : fitsT t = true) (hp : p.size ≤ 1048576) (ha : a.size ≤ 1048576) (hb : b.size ≤ 1048576) (K : Nat) : cowrielaw07_TreePuts.f (K + 1) t p a b = some true := by
  unfold cowrielaw07_TreePuts.f
  rw [alive_ok, Option.bind_some, if_pos rfl, Put_some ht hp (by omega), Option.bind_some, num_ok, Option.bind_some]
  rcases Put_cases t p a with ⟨h1, h2⟩ | ⟨h1, h2, h3, h4, h5, h6, h7⟩
  · rw [if_neg h2, h1]
    rfl
  · obtain ⟨cx, fx, kx, gx, h47⟩ := put_facts (d := a) ht hp h1 h2 h3 h4 h5 h6
    rw [h7]
    generalize withB t ⟨pathB p, false, a⟩ = x at *
    dsimp only
    have hp0 : (pathB p).data.toList ≠ [] := by rw [path_data]; simp [Path.pathL]
    have hsz : (a ++ b).size = a.size + b.size := ByteArray.size_append
    have hadd : tree_Add.f x p b = some (PutB x p (a ++ b)) := by
      unfold tree_Add.f
      rw [get_some fx (by omega), gx, Option.bind_some]
      dsimp only
      rw [if_pos rfl, if_pos (by omega), Put_some fx hp (by omega), Option.bind_some]
    have hrem : tree_Remove.f x p false = some (x.filter (fun n => !underB (pathB p) n), 0) := by
      unfold tree_Remove.f removeB
      rw [if_pos ⟨fx, by omega⟩, ask_good cx h2, if_pos rfl]
      dsimp only
      rw [kx, if_neg (by decide), if_neg (by rw [Lib.toList_data]; simpa using h47), if_neg (by simp)]
    have cz := check_rest (pathB p) cx
    have fz := fits_filter (fun n => !underB (pathB p) n) fx
    have kz : kindB (x.filter (fun n => !underB (pathB p) n)) p = 0 := by
      unfold kindB
      rw [ask_good cz h2, if_pos rfl]
      exact (kind_rest (q := pathB p) cx h47 hp0).1 (.inl rfl)
    have kxb : kindB x p = 1 := by
      unfold kindB
      rw [ask_good cx h2, if_pos rfl]
      exact kx
    rw [if_pos rfl, hadd, Option.bind_some, hrem, Option.bind_some, get_some fx (by omega), gx, Option.bind_some]
    dsimp only
    rcases Put_cases x p (a ++ b) with ⟨g1, g2⟩ | ⟨g1, g2, g3, g4, g5, g6, g7⟩
    · have fnil : fitsT ([] : List S65) = true := by decide +kernel
      rw [g1, get_some fnil (by omega), Option.bind_some]
      simp only [num_ok, Option.bind_some]
      rw [if_pos (by decide +kernel), if_pos trivial, if_neg g2]
      exact j0_puts K p x [] _ fx fnil fz (by omega) cx cz (.inl rfl) kz kxb
    · obtain ⟨cy, fy, ky, gy, _⟩ := put_facts (d := a ++ b) fx hp g1 g2 g3 g4 g5 g6
      rw [g7]
      generalize withB x ⟨pathB p, false, a ++ b⟩ = y at *
      dsimp only
      rw [get_some fy (by omega), gy, Option.bind_some]
      simp only [num_ok, Option.bind_some]
      rw [if_pos (by decide +kernel), if_pos trivial, if_pos trivial, if_pos trivial, if_pos (by omega), show ((a ++ b).toList != (a ++ b).toList) = false by simp]
      exact j0_puts K p x y _ fx fy fz (by omega) cx cz (.inr cy) kz kxb
end Go.Proofs.YtdfddiehiiaepaaDoor.PureT7

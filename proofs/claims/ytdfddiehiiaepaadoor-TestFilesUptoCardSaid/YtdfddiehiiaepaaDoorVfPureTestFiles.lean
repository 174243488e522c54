/- Proved: the plain law of TestFiles: what is a file, or a directory, is there; what has octets is a file. Conditions: a text of at most 2 to the 40 octets, a tree that fits. -/
import Derived.Test.YtdfddiehiiaepaaDoorVfS1
set_option linter.unusedVariables false
set_option linter.unusedSimpArgs false
namespace Go.Proofs.YtdfddiehiiaepaaDoor.PureT10
open Go.RowKit Go.Proofs.YtdfddiehiiaepaaDoor.P Go.Proofs.YtdfddiehiiaepaaDoor.Q Go.Proofs.YtdfddiehiiaepaaDoor.S Go.Proofs.YtdfddiehiiaepaaDoor.Ext Go.Proofs.YtdfddiehiiaepaaDoorW.PrintWords
/-- What is at a path. -/
def kindB (t : List S65) (p : ByteArray) : Int := if (askB t p).2 = 0 then kindOf t (askB t p).1 else 0
theorem kind_some {t : List S65} {p : ByteArray} (ht : fitsT t = true) (hp : p.size ≤ 1099511627776) : tree_Kind.f t p = some (kindB t p) := by
  have hl : t.length ≤ 1099511627776 := by
    unfold fitsT at ht
    simp only [Bool.and_eq_true, decide_eq_true_eq] at ht
    exact ht.1.1
  unfold tree_Kind.f tree_ask.f kindB
  rw [if_pos ⟨ht, hp⟩, Option.bind_some]
  split
  · unfold tree_kind.f
    rw [if_pos hl, Option.bind_some]
  · rfl
theorem get_some {t : List S65} {p : ByteArray} (ht : fitsT t = true) (hp : p.size ≤ 1099511627776) : tree_Get.f t p = some (getB t p) := by
  unfold tree_Get.f
  rw [if_pos ⟨ht, hp⟩]
theorem st_of (b : Bool) : test_status.f b = some (if b = true then 0 else 1) := by cases b <;> rfl
theorem single_e {t : List S65} {p : ByteArray} (ht : fitsT t = true) (hp : p.size ≤ 1099511627776) : test_Single.f ⟨#[45, 101]⟩ p t = some (if decide (kindB t p > 0) = true then 0 else 1) := by
  unfold test_Single.f
  rw [if_neg (by decide +kernel), if_neg (by decide +kernel), if_pos (by decide +kernel), kind_some ht hp, Option.bind_some, st_of, Option.bind_some]
theorem single_f {t : List S65} {p : ByteArray} (ht : fitsT t = true) (hp : p.size ≤ 1099511627776) : test_Single.f ⟨#[45, 102]⟩ p t = some (if (kindB t p == 1) = true then 0 else 1) := by
  unfold test_Single.f
  rw [if_neg (by decide +kernel), if_neg (by decide +kernel), if_neg (by decide +kernel), if_pos (by decide +kernel), kind_some ht hp, Option.bind_some, st_of, Option.bind_some]
theorem single_d {t : List S65} {p : ByteArray} (ht : fitsT t = true) (hp : p.size ≤ 1099511627776) : test_Single.f ⟨#[45, 100]⟩ p t = some (if (kindB t p == 2) = true then 0 else 1) := by
  unfold test_Single.f
  rw [if_neg (by decide +kernel), if_neg (by decide +kernel), if_neg (by decide +kernel), if_neg (by decide +kernel), if_pos (by decide +kernel), kind_some ht hp, Option.bind_some, st_of, Option.bind_some]
theorem single_s {t : List S65} {p : ByteArray} (ht : fitsT t = true) (hp : p.size ≤ 1099511627776) : test_Single.f ⟨#[45, 115]⟩ p t = some (if (!(getB t p).1.toList.isEmpty) = true then 0 else 1) := by
  unfold test_Single.f
  rw [if_neg (by decide +kernel), if_neg (by decide +kernel), if_neg (by decide +kernel), if_neg (by decide +kernel), if_neg (by decide +kernel), if_pos (by decide +kernel), get_some ht hp, Option.bind_some]
  rw [st_of, Option.bind_some]
theorem kindB_cases (t : List S65) (p : ByteArray) : kindB t p = 0 ∨ kindB t p = 1 ∨ kindB t p = 2 := by
  unfold kindB
  split
  · exact kind_cases t _
  · simp
/-- What has octets is a file. -/
theorem get_file {t : List S65} {p : ByteArray} (h : (getB t p).1.toList.isEmpty = false) : kindB t p = 1 := by
  unfold getB at h
  unfold kindB
  split at h
  · rename_i h0
    rw [if_pos h0]
    split at h
    · rw [Lib.toList_data] at h
      cases h
    · rename_i h1
      split at h
      · rw [Lib.toList_data] at h
        cases h
      · rename_i h2
        rcases kind_cases t (askB t p).1 with h3 | h3 | h3
        · exact absurd h3 h1
        · exact h3
        · exact absurd h3 h2
  · rw [Lib.toList_data] at h
    cases h
theorem TestFilesU (s : ByteArray) (t : List S65) (ht : fitsT t = true) (hs : s.size ≤ 1099511627776) : cowrielaw10_TestFiles.f s t = some true := by
  unfold cowrielaw10_TestFiles.f
  rw [show cowrielaw10_alive.f = some true from rfl, Option.bind_some, if_pos rfl, single_e ht hs, Option.bind_some, single_f ht hs, Option.bind_some, single_d ht hs, Option.bind_some, single_s ht hs, Option.bind_some]
  have hw : 0 < wrap64 2 := by decide +kernel
  have hw1 : 0 < wrap64 1 := by decide +kernel
  have hg := @get_file t s
  rcases kindB_cases t s with hk | hk | hk
  · have he : (getB t s).1.toList.isEmpty = true := by
      cases h : (getB t s).1.toList.isEmpty with
      | true => rfl
      | false => rw [hg h] at hk; cases hk
    rw [hk, he]
    simp [hw]
  · rw [hk]
    cases (getB t s).1.toList.isEmpty <;> simp [hw1]
  · have he : (getB t s).1.toList.isEmpty = true := by
      cases h : (getB t s).1.toList.isEmpty with
      | true => rfl
      | false => rw [hg h] at hk; cases hk
    rw [hk, he]
    simp [hw1]
end Go.Proofs.YtdfddiehiiaepaaDoor.PureT10

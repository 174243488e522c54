/- Proved: number.digits' call tells the number of a text of digits of a base (0 to 16), modulo 2 to the 64, or that it is none; strings.IndexByte's call by the shelf's contract. Conditions: the base is 0 to 16; the text is shorter than 2 to the 63. -/
import Derived.Test.YteoimkgjngdkdaaDoorProg
import Derived.Test.YteoimkgjngdkdaaDoorVbWWords
import Derived.Test.YteoimkgjngdkdaaDoorVbShelf
import Derived.WalkKit
import Derived.WalkSpells
import Derived.WalkLawsBesides
import Derived.Outline
import Derived.LoopTactic
import Derived.Deep.LoopGhost
import Derived.Lib.ConvBytes
import Derived.Laws.IdiomStrings
import Derived.Lib.Hide
set_option maxRecDepth 100000
namespace Go.Proofs.YteoimkgjngdkdaaDoor.Ext
open Go.RowKit Go.Proofs.YteoimkgjngdkdaaDoorW.PrintWords
def strings_IndexByte.f (a0 : ByteArray) (a1 : Int) : Option Int := some (Lib.indexByte a0.data.toList a1.toNat.toUInt8)
theorem strings_IndexByte.calls (a0 : ByteArray) (a1 : Int) (r : Int) (w : World) (h : strings_IndexByte.f a0 a1 = some r) :
    Calls Tryd.prog 66 #[.string a0, .int .u8 a1] w fun e w' => e = .returned (.int .i64 r) ∧ Drawn0 w w' := by
  obtain rfl := Option.some.inj h
  refine (Tryd.strings_IndexByte a0 a1 w).mono ?_
  rintro e w' ⟨he, rfl⟩
  exact ⟨he, Drawn0.refl _⟩
theorem cell_conv (w : World) (e : TypeId) (s : ByteArray) (cap : Nat) (fr : Nat × Nat) (j : Nat) (hj : j < s.size) :
    ((w.alloc (.cells (bytesRow s cap) e fr)).drew).cell? ⟨w.heap.size, j, none⟩ = some (.int .u8 (s.data.toList.getD j 0).toNat) := by
  have h1 : ((w.alloc (.cells (bytesRow s cap) e fr)).drew).heap[w.heap.size]? = some (.cells (bytesRow s cap) e fr) := heap_alloc_new w _
  have h2 := bytesRow_at s cap j hj
  have h3 : s.data.toList.getD j 0 = s.data[j] := by
    rw [List.getD_eq_getElem?_getD, List.getElem?_eq_getElem (by simpa using hj)]
    simp
  rw [h3]
  unfold World.cell?
  rw [h1]
  exact h2
end Go.Proofs.YteoimkgjngdkdaaDoor.Ext

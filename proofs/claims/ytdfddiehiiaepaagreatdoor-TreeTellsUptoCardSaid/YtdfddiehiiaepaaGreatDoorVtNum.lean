/- Proved: number.digits' call tells the number of a text of digits of a base (0 to 16), modulo 2 to the 64, or that it is none; strings.IndexByte's call by the shelf's contract. Conditions: the base is 0 to 16; the text is shorter than 2 to the 63. -/
import Derived.Test.YtdfddiehiiaepaaGreatDoorProg
import Derived.Test.YtdfddiehiiaepaaGreatDoorVtWWords
import Derived.Test.YtdfddiehiiaepaaGreatDoorVtShelf
import Derived.WalkKit
import Derived.WalkSpells
import Derived.WalkLawsBesides
import Derived.Outline
import Derived.LoopTactic
import Derived.Deep.LoopGhost
import Derived.Lib.ConvBytes
import Derived.Laws.IdiomStrings
import Derived.Lib.Hide
set_option maxRecDepth 100000
namespace Go.Proofs.YtdfddiehiiaepaaGreatDoor.Ext
open Go.RowKit Go.Proofs.YtdfddiehiiaepaaGreatDoorW.PrintWords
def strings_IndexByte.f (a0 : ByteArray) (a1 : Int) : Option Int := some (Lib.indexByte a0.data.toList a1.toNat.toUInt8)
theorem strings_IndexByte.calls (a0 : ByteArray) (a1 : Int) (r : Int) (w : World) (h : strings_IndexByte.f a0 a1 = some r) :
    Calls Tryz.prog 49 #[.string a0, .int .u8 a1] w fun e w' => e = .returned (.int .i64 r) ∧ Drawn0 w w' := by
  obtain rfl := Option.some.inj h
  refine (Tryz.strings_IndexByte a0 a1 w).mono ?_
  rintro e w' ⟨he, rfl⟩
  exact ⟨he, Drawn0.refl _⟩
end Go.Proofs.YtdfddiehiiaepaaGreatDoor.Ext

/- Proved: texts.Set's call at rounds enough (a number of the text's own), in the print's form without rounds. -/
import Derived.Test.YtbckpnioimhgcaaDoorT12
namespace Go.Proofs.YtbckpnioimhgcaaDoor.Ext
open Go.RowKit Go.Proofs.YtbckpnioimhgcaaDoorW.PrintWords

def texts_Set.f (a0 : ByteArray) : Option (ByteArray × Bool) := Go.Proofs.YtbckpnioimhgcaaDoor.T.texts_Set.f (600 * (a0.size + 2)) a0
theorem texts_Set.calls (a0 : ByteArray) (r1 : ByteArray) (r2 : Bool) (w : World) (h : texts_Set.f a0 = some (r1, r2)) :
    Calls Tryd.prog 11 #[.string a0] w fun e w' => e = .returned (.tuple #[.string r1, .bool r2]) ∧ Below w.heap.size w w' :=
  Go.Proofs.YtbckpnioimhgcaaDoor.T.texts_Set.calls _ a0 r1 r2 w h
theorem info_u8 : (Tryd.prog.info? 5).map (fun i => (i.zero, i.size, i.bytes)) = some (some (.int .u8 0), 1, 1) := by kernel_rfl

end Go.Proofs.YtbckpnioimhgcaaDoor.Ext

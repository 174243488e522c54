/- Proved: cowrielaw05.blank answers true at a text of blanks. Proved: cowrielaw05.ArithClosed's call is true. Conditions: a text of at most 2 to the 21 octets; the table of blanks holds what its initialiser lays. -/
import Derived.Test.YtlbgnpllbogkeaaDoorVkP1
import Derived.Test.YtlbgnpllbogkeaaDoorVkArTxt
import Derived.Test.YtlbgnpllbogkeaaDoorVkArAlive
section
set_option linter.unusedVariables false
set_option linter.unusedSimpArgs false
namespace Go.Proofs.YtlbgnpllbogkeaaDoor.Ext
open Go.RowKit Go.Proofs.YtlbgnpllbogkeaaDoorW.PrintWords
theorem bt_at3 (x : ByteArray) (i : Nat) (h : i < x.data.toList.length) : bt x ((i : Nat) : Int) = ((x.data.toList[i].toNat : Nat) : Int) := by
  have h2 : i < x.size := by rw [Lib.size_eq]; exact h
  rw [← bt_at x i (by rw [Int.toNat_natCast]; exact h2)]
  simp [ByteArray.getElem_eq_getElem_data]
end Go.Proofs.YtlbgnpllbogkeaaDoor.Ext
end

section
set_option linter.unusedVariables false
set_option linter.unusedSimpArgs false
namespace Go.Proofs.YtlbgnpllbogkeaaDoor.Ext
open Go.RowKit Go.Proofs.YtlbgnpllbogkeaaDoorW.PrintWords
theorem cell_kept {w w' : World} {a : Addr} {u : Value} (h : Below w.heap.size w w') (hc : w.cell? a = some u) : w'.cell? a = some u := by
  rw [World.cell?_of_block (h.block _ (cell_lt hc))]
  exact hc
end Go.Proofs.YtlbgnpllbogkeaaDoor.Ext
end

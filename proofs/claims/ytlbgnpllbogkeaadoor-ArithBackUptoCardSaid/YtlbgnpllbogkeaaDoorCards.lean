/-
  DERIVED. GIVEN WITH THE SEED: THE CARDS: each row of YtlbgnpllbogkeaaDoorRows.lean that lists a variable, with what it lists TIED to the program's text (the seventh form; the later family's looks); each row that meets fmt, with fmt's text TOLD by the authors' own Lean function (tested against real Go, not proved from fmt's source: count such statements apart). THE CARD IS WHAT COUNTS. Prove the row's statement (the work); the ties are given (YtlbgnpllbogkeaaDoorTie.lean); close each card by the builder's one call (the guide's Derived/Test/ToyasCard.lean, 'card_holds'). Laid BY PROGRAM, IN A SANDBOX (cutbox-door.mjs). By AI agents, Wed Nov 11 2026. No macro, syntax, notation, axiom, sorry.
-/
import Derived.Test.YtlbgnpllbogkeaaDoorRows
import GoSem.ClaimSeven
namespace Go.Proofs.YtlbgnpllbogkeaaDoor
namespace Rows

/-- THE TIED CARD OF 'cowrielaw05.ArithClosed'. -/
def arithClosedCard : Claim7 := { stood := { row := arithClosedRow, standIns := [], harness := (true, "130720d7889e35e0401323ba7055a1de7136a411000c8f1587b7708532694091"), looks := true }, kinds := [], alts := [], laidByText := true, laidKinds := [.listed, .data], laidTests := true, laidLooks := .later }
def ArithClosedCardSaid : Prop := Claim7.holds Tryd.pinned (.plain (OpenSpec.ofChange arithClosedSpec)) arithClosedCard

/-- THE TIED CARD OF 'cowrielaw05.ArithBlanks'. -/
def arithBlanksCard : Claim7 := { stood := { row := arithBlanksRow, standIns := [], harness := (true, "130720d7889e35e0401323ba7055a1de7136a411000c8f1587b7708532694091"), looks := true }, kinds := [], alts := [], laidByText := true, laidKinds := [.listed, .data], laidTests := true, laidLooks := .later }
def ArithBlanksCardSaid : Prop := Claim7.holds Tryd.pinned (.plain (OpenSpec.ofChange arithBlanksSpec)) arithBlanksCard

/-- THE TIED CARD OF 'cowrielaw05.ArithMay'. -/
def arithMayCard : Claim7 := { stood := { row := arithMayRow, standIns := [], harness := (true, "130720d7889e35e0401323ba7055a1de7136a411000c8f1587b7708532694091"), looks := true }, kinds := [], alts := [], laidByText := true, laidKinds := [.listed, .data], laidTests := true, laidLooks := .later }
def ArithMayCardSaid : Prop := Claim7.holds Tryd.pinned (.plain (OpenSpec.ofChange arithMaySpec)) arithMayCard

/-- THE TIED CARD OF 'cowrielaw05.ArithBack'. -/
def arithBackCard : Claim7 := { stood := { row := arithBackRow, standIns := [], harness := (true, "130720d7889e35e0401323ba7055a1de7136a411000c8f1587b7708532694091"), looks := true }, kinds := [], alts := [], laidByText := true, laidKinds := [.listed, .data], laidTests := true, laidLooks := .later }
def ArithBackCardSaid : Prop := Claim7.holds Tryd.pinned (.plain (OpenSpec.ofChange arithBackSpec)) arithBackCard

/-- THE SECOND FORM's CARD OF 'cowrielaw05.ArithClosed'. -/
def arithClosedUptoCard : Claim7 := { stood := { row := arithClosedUptoRow, standIns := [], harness := (true, "130720d7889e35e0401323ba7055a1de7136a411000c8f1587b7708532694091"), looks := true }, kinds := [], alts := [], laidByText := true, laidKinds := [.listed, .data], laidTests := true, laidLooks := .later }
def ArithClosedUptoCardSaid : Prop := Claim7.holds Tryd.pinned (.plain (OpenSpec.upto arithClosedSpec)) arithClosedUptoCard

/-- THE SECOND FORM's CARD OF 'cowrielaw05.ArithBlanks'. -/
def arithBlanksUptoCard : Claim7 := { stood := { row := arithBlanksUptoRow, standIns := [], harness := (true, "130720d7889e35e0401323ba7055a1de7136a411000c8f1587b7708532694091"), looks := true }, kinds := [], alts := [], laidByText := true, laidKinds := [.listed, .data], laidTests := true, laidLooks := .later }
def ArithBlanksUptoCardSaid : Prop := Claim7.holds Tryd.pinned (.plain (OpenSpec.upto arithBlanksSpec)) arithBlanksUptoCard

/-- THE SECOND FORM's CARD OF 'cowrielaw05.ArithMay'. -/
def arithMayUptoCard : Claim7 := { stood := { row := arithMayUptoRow, standIns := [], harness := (true, "130720d7889e35e0401323ba7055a1de7136a411000c8f1587b7708532694091"), looks := true }, kinds := [], alts := [], laidByText := true, laidKinds := [.listed, .data], laidTests := true, laidLooks := .later }
def ArithMayUptoCardSaid : Prop := Claim7.holds Tryd.pinned (.plain (OpenSpec.upto arithMaySpec)) arithMayUptoCard

/-- THE SECOND FORM's CARD OF 'cowrielaw05.ArithBack'. -/
def arithBackUptoCard : Claim7 := { stood := { row := arithBackUptoRow, standIns := [], harness := (true, "130720d7889e35e0401323ba7055a1de7136a411000c8f1587b7708532694091"), looks := true }, kinds := [], alts := [], laidByText := true, laidKinds := [.listed, .data], laidTests := true, laidLooks := .later }
def ArithBackUptoCardSaid : Prop := Claim7.holds Tryd.pinned (.plain (OpenSpec.upto arithBackSpec)) arithBackUptoCard
end Rows
end Go.Proofs.YtlbgnpllbogkeaaDoor

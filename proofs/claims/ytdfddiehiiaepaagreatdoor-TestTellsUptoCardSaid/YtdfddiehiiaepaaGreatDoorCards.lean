/-
  DERIVED. GIVEN WITH THE SEED: THE CARDS: each row of YtdfddiehiiaepaaGreatDoorRows.lean that lists a variable, with what it lists TIED to the program's text (the seventh form; the later family's looks); each row that meets fmt, with fmt's text TOLD by the authors' own Lean function (tested against real Go, not proved from fmt's source: count such statements apart). THE CARD IS WHAT COUNTS. Prove the row's statement (the work); the ties are given (YtdfddiehiiaepaaGreatDoorTie.lean); close each card by the builder's one call (the guide's Derived/Test/ToyasCard.lean, 'card_holds'). Laid BY PROGRAM, IN A SANDBOX (cutbox-door.mjs). By AI agents, Wed Nov 11 2026. No macro, syntax, notation, axiom, sorry.
-/
import Derived.Test.YtdfddiehiiaepaaGreatDoorRows
import GoSem.ClaimSeven
namespace Go.Proofs.YtdfddiehiiaepaaGreatDoor
namespace Rows

/-- THE TIED CARD OF 'cowrielaw10.TestTells'. -/
def testTellsCard : Claim7 := { stood := { row := testTellsRow, standIns := [], harness := (true, "581e362798edfc28fe66628460884242246788b468bb0abe208aff329ac234c2"), looks := false }, kinds := [], alts := [], laidByText := true, laidKinds := [.data, .listed, .data, .pinned], laidTests := true, laidLooks := .later }
def TestTellsCardSaid : Prop := Claim7.holds Tryz.pinned (.plain (OpenSpec.ofChange testTellsSpec)) testTellsCard

/-- THE TIED CARD OF 'cowrielaw07.TreeTells'. -/
def treeTellsCard : Claim7 := { stood := { row := treeTellsRow, standIns := [], harness := (true, "581e362798edfc28fe66628460884242246788b468bb0abe208aff329ac234c2"), looks := false }, kinds := [], alts := [], laidByText := true, laidKinds := [.data, .pinned], laidTests := true, laidLooks := .later }
def TreeTellsCardSaid : Prop := Claim7.holds Tryz.pinned (.plain (OpenSpec.ofChange treeTellsSpec)) treeTellsCard

/-- THE SECOND FORM's CARD OF 'cowrielaw10.TestTells'. -/
def testTellsUptoCard : Claim7 := { stood := { row := testTellsUptoRow, standIns := [], harness := (true, "581e362798edfc28fe66628460884242246788b468bb0abe208aff329ac234c2"), looks := false }, kinds := [], alts := [], laidByText := true, laidKinds := [.data, .listed, .data, .pinned], laidTests := true, laidLooks := .later }
def TestTellsUptoCardSaid : Prop := Claim7.holds Tryz.pinned (.plain (OpenSpec.upto testTellsSpec)) testTellsUptoCard

/-- THE SECOND FORM's CARD OF 'cowrielaw07.TreeTells'. -/
def treeTellsUptoCard : Claim7 := { stood := { row := treeTellsUptoRow, standIns := [], harness := (true, "581e362798edfc28fe66628460884242246788b468bb0abe208aff329ac234c2"), looks := false }, kinds := [], alts := [], laidByText := true, laidKinds := [.data, .pinned], laidTests := true, laidLooks := .later }
def TreeTellsUptoCardSaid : Prop := Claim7.holds Tryz.pinned (.plain (OpenSpec.upto treeTellsSpec)) treeTellsUptoCard
end Rows
end Go.Proofs.YtdfddiehiiaepaaGreatDoor

/-
  DERIVED. GIVEN WITH THE SEED: THE CARDS: each row of YtkbeapfcihgjfaaDoorRows.lean that lists a variable, with what it lists TIED to the program's text (the seventh form; the later family's looks); each row that meets fmt, with fmt's text TOLD by the authors' own Lean function (tested against real Go, not proved from fmt's source: count such statements apart). THE CARD IS WHAT COUNTS. Prove the row's statement (the work); the ties are given (YtkbeapfcihgjfaaDoorTie.lean); close each card by the builder's one call (the guide's Derived/Test/ToyasCard.lean, 'card_holds'). Laid BY PROGRAM, IN A SANDBOX (cutbox-door.mjs). By AI agents, Wed Nov 11 2026. No macro, syntax, notation, axiom, sorry.
-/
import Derived.Test.YtkbeapfcihgjfaaDoorRows
import GoSem.ClaimSeven
namespace Go.Proofs.YtkbeapfcihgjfaaDoor
namespace Rows

/-- THE TIED CARD OF 'cowrielaw04.NumberBack'. -/
def numberBackCard : Claim7 := { stood := { row := numberBackRow, standIns := [], harness := (true, "79779fd0cd1163d9e6894ba1a638fa0aa39127cc7c3568c9d6f889958a5fd247"), looks := false }, kinds := [], alts := [], laidByText := true, laidKinds := [.data, .pinned], laidTests := true, laidLooks := .later }
def NumberBackCardSaid : Prop := Claim7.holds Tryd.pinned (.plain (OpenSpec.ofChange numberBackSpec)) numberBackCard

/-- THE TIED CARD OF 'cowrielaw04.NumberSigns'. -/
def numberSignsCard : Claim7 := { stood := { row := numberSignsRow, standIns := [], harness := (true, "79779fd0cd1163d9e6894ba1a638fa0aa39127cc7c3568c9d6f889958a5fd247"), looks := false }, kinds := [], alts := [], laidByText := true, laidKinds := [.data, .pinned], laidTests := true, laidLooks := .later }
def NumberSignsCardSaid : Prop := Claim7.holds Tryd.pinned (.plain (OpenSpec.ofChange numberSignsSpec)) numberSignsCard

/-- THE SECOND FORM's CARD OF 'cowrielaw04.NumberBack'. -/
def numberBackUptoCard : Claim7 := { stood := { row := numberBackUptoRow, standIns := [], harness := (true, "79779fd0cd1163d9e6894ba1a638fa0aa39127cc7c3568c9d6f889958a5fd247"), looks := false }, kinds := [], alts := [], laidByText := true, laidKinds := [.data, .pinned], laidTests := true, laidLooks := .later }
def NumberBackUptoCardSaid : Prop := Claim7.holds Tryd.pinned (.plain (OpenSpec.upto numberBackSpec)) numberBackUptoCard

/-- THE SECOND FORM's CARD OF 'cowrielaw04.NumberSigns'. -/
def numberSignsUptoCard : Claim7 := { stood := { row := numberSignsUptoRow, standIns := [], harness := (true, "79779fd0cd1163d9e6894ba1a638fa0aa39127cc7c3568c9d6f889958a5fd247"), looks := false }, kinds := [], alts := [], laidByText := true, laidKinds := [.data, .pinned], laidTests := true, laidLooks := .later }
def NumberSignsUptoCardSaid : Prop := Claim7.holds Tryd.pinned (.plain (OpenSpec.upto numberSignsSpec)) numberSignsUptoCard
end Rows
end Go.Proofs.YtkbeapfcihgjfaaDoor

/-
  DERIVED. GIVEN WITH THE SEED: THE CARDS: each row of YteoimkgjngdkdaaDoorRows.lean that lists a variable, with what it lists TIED to the program's text (the seventh form; the later family's looks); each row that meets fmt, with fmt's text TOLD by the authors' own Lean function (tested against real Go, not proved from fmt's source: count such statements apart). THE CARD IS WHAT COUNTS. Prove the row's statement (the work); the ties are given (YteoimkgjngdkdaaDoorTie.lean); close each card by the builder's one call (the guide's Derived/Test/ToyasCard.lean, 'card_holds'). Laid BY PROGRAM, IN A SANDBOX (cutbox-door.mjs). By AI agents, Wed Nov 11 2026. No macro, syntax, notation, axiom, sorry.
-/
import Derived.Test.YteoimkgjngdkdaaDoorRows
import GoSem.ClaimSeven
namespace Go.Proofs.YteoimkgjngdkdaaDoor
namespace Rows

/-- THE TIED CARD OF 'cowrielaw20.VarsShifts'. -/
def varsShiftsCard : Claim7 := { stood := { row := varsShiftsRow, standIns := [], harness := (true, "35367b353cbae78ef0deb97a75b9bda5df43c5ffe347137fa3c85434a7c41028"), looks := false }, kinds := [], alts := [], laidByText := true, laidKinds := [.data, .pinned], laidTests := true, laidLooks := .later }
def VarsShiftsCardSaid : Prop := Claim7.holds Tryd.pinned (.plain (OpenSpec.ofChange varsShiftsSpec)) varsShiftsCard

/-- THE TIED CARD OF 'cowrielaw20.VarsBack'. -/
def varsBackCard : Claim7 := { stood := { row := varsBackRow, standIns := [], harness := (true, "35367b353cbae78ef0deb97a75b9bda5df43c5ffe347137fa3c85434a7c41028"), looks := false }, kinds := [], alts := [], laidByText := true, laidKinds := [.data, .pinned], laidTests := true, laidLooks := .later }
def VarsBackCardSaid : Prop := Claim7.holds Tryd.pinned (.plain (OpenSpec.ofChange varsBackSpec)) varsBackCard

/-- THE TIED CARD OF 'cowrielaw20.VarsLists'. -/
def varsListsCard : Claim7 := { stood := { row := varsListsRow, standIns := [], harness := (true, "35367b353cbae78ef0deb97a75b9bda5df43c5ffe347137fa3c85434a7c41028"), looks := false }, kinds := [], alts := [], laidByText := true, laidKinds := [.data, .pinned], laidTests := true, laidLooks := .later }
def VarsListsCardSaid : Prop := Claim7.holds Tryd.pinned (.plain (OpenSpec.ofChange varsListsSpec)) varsListsCard

/-- THE SECOND FORM's CARD OF 'cowrielaw20.VarsShifts'. -/
def varsShiftsUptoCard : Claim7 := { stood := { row := varsShiftsUptoRow, standIns := [], harness := (true, "35367b353cbae78ef0deb97a75b9bda5df43c5ffe347137fa3c85434a7c41028"), looks := false }, kinds := [], alts := [], laidByText := true, laidKinds := [.data, .pinned], laidTests := true, laidLooks := .later }
def VarsShiftsUptoCardSaid : Prop := Claim7.holds Tryd.pinned (.plain (OpenSpec.upto varsShiftsSpec)) varsShiftsUptoCard

/-- THE SECOND FORM's CARD OF 'cowrielaw20.VarsBack'. -/
def varsBackUptoCard : Claim7 := { stood := { row := varsBackUptoRow, standIns := [], harness := (true, "35367b353cbae78ef0deb97a75b9bda5df43c5ffe347137fa3c85434a7c41028"), looks := false }, kinds := [], alts := [], laidByText := true, laidKinds := [.data, .pinned], laidTests := true, laidLooks := .later }
def VarsBackUptoCardSaid : Prop := Claim7.holds Tryd.pinned (.plain (OpenSpec.upto varsBackSpec)) varsBackUptoCard

/-- THE SECOND FORM's CARD OF 'cowrielaw20.VarsLists'. -/
def varsListsUptoCard : Claim7 := { stood := { row := varsListsUptoRow, standIns := [], harness := (true, "35367b353cbae78ef0deb97a75b9bda5df43c5ffe347137fa3c85434a7c41028"), looks := false }, kinds := [], alts := [], laidByText := true, laidKinds := [.data, .pinned], laidTests := true, laidLooks := .later }
def VarsListsUptoCardSaid : Prop := Claim7.holds Tryd.pinned (.plain (OpenSpec.upto varsListsSpec)) varsListsUptoCard
end Rows
end Go.Proofs.YteoimkgjngdkdaaDoor

/-
  DERIVED. GIVEN WITH THE SEED: THE CARDS: each row of YtagdkbncfcdhdaaDoorRows.lean that lists a variable, with what it lists TIED to the program's text (the seventh form; the later family's looks); each row that meets fmt, with fmt's text TOLD by the authors' own Lean function (tested against real Go, not proved from fmt's source: count such statements apart). THE CARD IS WHAT COUNTS. Prove the row's statement (the work); the ties are given (YtagdkbncfcdhdaaDoorTie.lean); close each card by the builder's one call (the guide's Derived/Test/ToyasCard.lean, 'card_holds'). Laid BY PROGRAM, IN A SANDBOX (cutbox-door.mjs). By AI agents, Wed Nov 11 2026. No macro, syntax, notation, axiom, sorry.
-/
import Derived.Test.YtagdkbncfcdhdaaDoorRows
import GoSem.ClaimSeven
namespace Go.Proofs.YtagdkbncfcdhdaaDoor
namespace Rows

/-- THE TIED CARD OF 'cowrielaw09.PrintfTexts'. -/
def printfTextsCard : Claim7 := { stood := { row := printfTextsRow, standIns := [], harness := (true, "f10186ea2151ac5e87aed5e8e504f55881f823e255dc08bba3db1200d60b09b2"), looks := false }, kinds := [], alts := [], laidByText := true, laidKinds := [.data, .pinned], laidTests := true, laidLooks := .later }
def PrintfTextsCardSaid : Prop := Claim7.holds Tryd.pinned (.plain (OpenSpec.ofChange printfTextsSpec)) printfTextsCard

/-- THE TIED CARD OF 'cowrielaw09.PrintfWide'. -/
def printfWideCard : Claim7 := { stood := { row := printfWideRow, standIns := [], harness := (true, "f10186ea2151ac5e87aed5e8e504f55881f823e255dc08bba3db1200d60b09b2"), looks := false }, kinds := [], alts := [], laidByText := true, laidKinds := [.data, .pinned], laidTests := true, laidLooks := .later }
def PrintfWideCardSaid : Prop := Claim7.holds Tryd.pinned (.plain (OpenSpec.ofChange printfWideSpec)) printfWideCard

/-- THE TIED CARD OF 'cowrielaw09.PrintfRuns'. -/
def printfRunsCard : Claim7 := { stood := { row := printfRunsRow, standIns := [], harness := (true, "f10186ea2151ac5e87aed5e8e504f55881f823e255dc08bba3db1200d60b09b2"), looks := false }, kinds := [], alts := [], laidByText := true, laidKinds := [.data, .pinned], laidTests := true, laidLooks := .later }
def PrintfRunsCardSaid : Prop := Claim7.holds Tryd.pinned (.plain (OpenSpec.ofChange printfRunsSpec)) printfRunsCard

/-- THE TIED CARD OF 'cowrielaw09.PrintfNumbers'. -/
def printfNumbersCard : Claim7 := { stood := { row := printfNumbersRow, standIns := [], harness := (true, "f10186ea2151ac5e87aed5e8e504f55881f823e255dc08bba3db1200d60b09b2"), looks := false }, kinds := [], alts := [], laidByText := true, laidKinds := [.data, .pinned], laidTests := true, laidLooks := .later }
def PrintfNumbersCardSaid : Prop := Claim7.holds Tryd.pinned (.plain (OpenSpec.ofChange printfNumbersSpec)) printfNumbersCard

/-- THE TIED CARD OF 'cowrielaw09.PrintfPlain'. -/
def printfPlainCard : Claim7 := { stood := { row := printfPlainRow, standIns := [], harness := (true, "f10186ea2151ac5e87aed5e8e504f55881f823e255dc08bba3db1200d60b09b2"), looks := false }, kinds := [], alts := [], laidByText := true, laidKinds := [.data, .pinned], laidTests := true, laidLooks := .later }
def PrintfPlainCardSaid : Prop := Claim7.holds Tryd.pinned (.plain (OpenSpec.ofChange printfPlainSpec)) printfPlainCard

/-- THE TIED CARD OF 'cowrielaw09.PrintfTells'. -/
def printfTellsCard : Claim7 := { stood := { row := printfTellsRow, standIns := [], harness := (true, "f10186ea2151ac5e87aed5e8e504f55881f823e255dc08bba3db1200d60b09b2"), looks := false }, kinds := [], alts := [], laidByText := true, laidKinds := [.data, .pinned], laidTests := true, laidLooks := .later }
def PrintfTellsCardSaid : Prop := Claim7.holds Tryd.pinned (.plain (OpenSpec.ofChange printfTellsSpec)) printfTellsCard

/-- THE SECOND FORM's CARD OF 'cowrielaw09.PrintfTexts'. -/
def printfTextsUptoCard : Claim7 := { stood := { row := printfTextsUptoRow, standIns := [], harness := (true, "f10186ea2151ac5e87aed5e8e504f55881f823e255dc08bba3db1200d60b09b2"), looks := false }, kinds := [], alts := [], laidByText := true, laidKinds := [.data, .pinned], laidTests := true, laidLooks := .later }
def PrintfTextsUptoCardSaid : Prop := Claim7.holds Tryd.pinned (.plain (OpenSpec.upto printfTextsSpec)) printfTextsUptoCard

/-- THE SECOND FORM's CARD OF 'cowrielaw09.PrintfWide'. -/
def printfWideUptoCard : Claim7 := { stood := { row := printfWideUptoRow, standIns := [], harness := (true, "f10186ea2151ac5e87aed5e8e504f55881f823e255dc08bba3db1200d60b09b2"), looks := false }, kinds := [], alts := [], laidByText := true, laidKinds := [.data, .pinned], laidTests := true, laidLooks := .later }
def PrintfWideUptoCardSaid : Prop := Claim7.holds Tryd.pinned (.plain (OpenSpec.upto printfWideSpec)) printfWideUptoCard

/-- THE SECOND FORM's CARD OF 'cowrielaw09.PrintfRuns'. -/
def printfRunsUptoCard : Claim7 := { stood := { row := printfRunsUptoRow, standIns := [], harness := (true, "f10186ea2151ac5e87aed5e8e504f55881f823e255dc08bba3db1200d60b09b2"), looks := false }, kinds := [], alts := [], laidByText := true, laidKinds := [.data, .pinned], laidTests := true, laidLooks := .later }
def PrintfRunsUptoCardSaid : Prop := Claim7.holds Tryd.pinned (.plain (OpenSpec.upto printfRunsSpec)) printfRunsUptoCard

/-- THE SECOND FORM's CARD OF 'cowrielaw09.PrintfNumbers'. -/
def printfNumbersUptoCard : Claim7 := { stood := { row := printfNumbersUptoRow, standIns := [], harness := (true, "f10186ea2151ac5e87aed5e8e504f55881f823e255dc08bba3db1200d60b09b2"), looks := false }, kinds := [], alts := [], laidByText := true, laidKinds := [.data, .pinned], laidTests := true, laidLooks := .later }
def PrintfNumbersUptoCardSaid : Prop := Claim7.holds Tryd.pinned (.plain (OpenSpec.upto printfNumbersSpec)) printfNumbersUptoCard

/-- THE SECOND FORM's CARD OF 'cowrielaw09.PrintfPlain'. -/
def printfPlainUptoCard : Claim7 := { stood := { row := printfPlainUptoRow, standIns := [], harness := (true, "f10186ea2151ac5e87aed5e8e504f55881f823e255dc08bba3db1200d60b09b2"), looks := false }, kinds := [], alts := [], laidByText := true, laidKinds := [.data, .pinned], laidTests := true, laidLooks := .later }
def PrintfPlainUptoCardSaid : Prop := Claim7.holds Tryd.pinned (.plain (OpenSpec.upto printfPlainSpec)) printfPlainUptoCard

/-- THE SECOND FORM's CARD OF 'cowrielaw09.PrintfTells'. -/
def printfTellsUptoCard : Claim7 := { stood := { row := printfTellsUptoRow, standIns := [], harness := (true, "f10186ea2151ac5e87aed5e8e504f55881f823e255dc08bba3db1200d60b09b2"), looks := false }, kinds := [], alts := [], laidByText := true, laidKinds := [.data, .pinned], laidTests := true, laidLooks := .later }
def PrintfTellsUptoCardSaid : Prop := Claim7.holds Tryd.pinned (.plain (OpenSpec.upto printfTellsSpec)) printfTellsUptoCard
end Rows
end Go.Proofs.YtagdkbncfcdhdaaDoor

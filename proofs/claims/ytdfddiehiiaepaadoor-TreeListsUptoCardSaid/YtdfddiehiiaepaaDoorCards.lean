/-
  DERIVED. GIVEN WITH THE SEED: THE CARDS: each row of YtdfddiehiiaepaaDoorRows.lean that lists a variable, with what it lists TIED to the program's text (the seventh form; the later family's looks); each row that meets fmt, with fmt's text TOLD by the authors' own Lean function (tested against real Go, not proved from fmt's source: count such statements apart). THE CARD IS WHAT COUNTS. Prove the row's statement (the work); the ties are given (YtdfddiehiiaepaaDoorTie.lean); close each card by the builder's one call (the guide's Derived/Test/ToyasCard.lean, 'card_holds'). Laid BY PROGRAM, IN A SANDBOX (cutbox-door.mjs). By AI agents, Wed Nov 11 2026. No macro, syntax, notation, axiom, sorry.
-/
import Derived.Test.YtdfddiehiiaepaaDoorRows
import GoSem.ClaimSeven
namespace Go.Proofs.YtdfddiehiiaepaaDoor
namespace Rows

/-- THE TIED CARD OF 'cowrielaw10.TestOpposite'. -/
def testOppositeCard : Claim7 := { stood := { row := testOppositeRow, standIns := [], harness := (true, "c9c4961fc865997eabbcbfc5af06ab47e7b02e993e04b51f9434ec74b815290a"), looks := false }, kinds := [], alts := [], laidByText := true, laidKinds := [.data, .listed, .data, .pinned], laidTests := true, laidLooks := .later }
def TestOppositeCardSaid : Prop := Claim7.holds Tryd.pinned (.plain (OpenSpec.ofChange testOppositeSpec)) testOppositeCard

/-- THE TIED CARD OF 'cowrielaw10.TestTexts'. -/
def testTextsCard : Claim7 := { stood := { row := testTextsRow, standIns := [], harness := (true, "c9c4961fc865997eabbcbfc5af06ab47e7b02e993e04b51f9434ec74b815290a"), looks := false }, kinds := [], alts := [], laidByText := true, laidKinds := [.data, .listed, .data, .pinned], laidTests := true, laidLooks := .later }
def TestTextsCardSaid : Prop := Claim7.holds Tryd.pinned (.plain (OpenSpec.ofChange testTextsSpec)) testTextsCard

/-- THE TIED CARD OF 'cowrielaw10.TestNumbers'. -/
def testNumbersCard : Claim7 := { stood := { row := testNumbersRow, standIns := [], harness := (true, "c9c4961fc865997eabbcbfc5af06ab47e7b02e993e04b51f9434ec74b815290a"), looks := false }, kinds := [], alts := [], laidByText := true, laidKinds := [.data, .listed, .data, .pinned], laidTests := true, laidLooks := .later }
def TestNumbersCardSaid : Prop := Claim7.holds Tryd.pinned (.plain (OpenSpec.ofChange testNumbersSpec)) testNumbersCard

/-- THE TIED CARD OF 'cowrielaw10.TestFiles'. -/
def testFilesCard : Claim7 := { stood := { row := testFilesRow, standIns := [], harness := (true, "c9c4961fc865997eabbcbfc5af06ab47e7b02e993e04b51f9434ec74b815290a"), looks := false }, kinds := [], alts := [], laidByText := true, laidKinds := [.data, .listed, .data, .pinned], laidTests := true, laidLooks := .later }
def TestFilesCardSaid : Prop := Claim7.holds Tryd.pinned (.plain (OpenSpec.ofChange testFilesSpec)) testFilesCard

/-- THE TIED CARD OF 'cowrielaw07.TreePaths'. -/
def treePathsCard : Claim7 := { stood := { row := treePathsRow, standIns := [], harness := (true, "c9c4961fc865997eabbcbfc5af06ab47e7b02e993e04b51f9434ec74b815290a"), looks := false }, kinds := [], alts := [], laidByText := true, laidKinds := [.data, .pinned], laidTests := true, laidLooks := .later }
def TreePathsCardSaid : Prop := Claim7.holds Tryd.pinned (.plain (OpenSpec.ofChange treePathsSpec)) treePathsCard

/-- THE TIED CARD OF 'cowrielaw07.TreeOwn'. -/
def treeOwnCard : Claim7 := { stood := { row := treeOwnRow, standIns := [], harness := (true, "c9c4961fc865997eabbcbfc5af06ab47e7b02e993e04b51f9434ec74b815290a"), looks := false }, kinds := [], alts := [], laidByText := true, laidKinds := [.data, .pinned], laidTests := true, laidLooks := .later }
def TreeOwnCardSaid : Prop := Claim7.holds Tryd.pinned (.plain (OpenSpec.ofChange treeOwnSpec)) treeOwnCard

/-- THE TIED CARD OF 'cowrielaw07.TreeAll'. -/
def treeAllCard : Claim7 := { stood := { row := treeAllRow, standIns := [], harness := (true, "c9c4961fc865997eabbcbfc5af06ab47e7b02e993e04b51f9434ec74b815290a"), looks := false }, kinds := [], alts := [], laidByText := true, laidKinds := [.data, .pinned], laidTests := true, laidLooks := .later }
def TreeAllCardSaid : Prop := Claim7.holds Tryd.pinned (.plain (OpenSpec.ofChange treeAllSpec)) treeAllCard

/-- THE TIED CARD OF 'cowrielaw07.TreePuts'. -/
def treePutsCard : Claim7 := { stood := { row := treePutsRow, standIns := [], harness := (true, "c9c4961fc865997eabbcbfc5af06ab47e7b02e993e04b51f9434ec74b815290a"), looks := false }, kinds := [], alts := [], laidByText := true, laidKinds := [.data, .pinned], laidTests := true, laidLooks := .later }
def TreePutsCardSaid : Prop := Claim7.holds Tryd.pinned (.plain (OpenSpec.ofChange treePutsSpec)) treePutsCard

/-- THE TIED CARD OF 'cowrielaw07.TreeLists'. -/
def treeListsCard : Claim7 := { stood := { row := treeListsRow, standIns := [], harness := (true, "c9c4961fc865997eabbcbfc5af06ab47e7b02e993e04b51f9434ec74b815290a"), looks := false }, kinds := [], alts := [], laidByText := true, laidKinds := [.data, .pinned], laidTests := true, laidLooks := .later }
def TreeListsCardSaid : Prop := Claim7.holds Tryd.pinned (.plain (OpenSpec.ofChange treeListsSpec)) treeListsCard

/-- THE SECOND FORM's CARD OF 'cowrielaw10.TestOpposite'. -/
def testOppositeUptoCard : Claim7 := { stood := { row := testOppositeUptoRow, standIns := [], harness := (true, "c9c4961fc865997eabbcbfc5af06ab47e7b02e993e04b51f9434ec74b815290a"), looks := false }, kinds := [], alts := [], laidByText := true, laidKinds := [.data, .listed, .data, .pinned], laidTests := true, laidLooks := .later }
def TestOppositeUptoCardSaid : Prop := Claim7.holds Tryd.pinned (.plain (OpenSpec.upto testOppositeSpec)) testOppositeUptoCard

/-- THE SECOND FORM's CARD OF 'cowrielaw10.TestTexts'. -/
def testTextsUptoCard : Claim7 := { stood := { row := testTextsUptoRow, standIns := [], harness := (true, "c9c4961fc865997eabbcbfc5af06ab47e7b02e993e04b51f9434ec74b815290a"), looks := false }, kinds := [], alts := [], laidByText := true, laidKinds := [.data, .listed, .data, .pinned], laidTests := true, laidLooks := .later }
def TestTextsUptoCardSaid : Prop := Claim7.holds Tryd.pinned (.plain (OpenSpec.upto testTextsSpec)) testTextsUptoCard

/-- THE SECOND FORM's CARD OF 'cowrielaw10.TestNumbers'. -/
def testNumbersUptoCard : Claim7 := { stood := { row := testNumbersUptoRow, standIns := [], harness := (true, "c9c4961fc865997eabbcbfc5af06ab47e7b02e993e04b51f9434ec74b815290a"), looks := false }, kinds := [], alts := [], laidByText := true, laidKinds := [.data, .listed, .data, .pinned], laidTests := true, laidLooks := .later }
def TestNumbersUptoCardSaid : Prop := Claim7.holds Tryd.pinned (.plain (OpenSpec.upto testNumbersSpec)) testNumbersUptoCard

/-- THE SECOND FORM's CARD OF 'cowrielaw10.TestFiles'. -/
def testFilesUptoCard : Claim7 := { stood := { row := testFilesUptoRow, standIns := [], harness := (true, "c9c4961fc865997eabbcbfc5af06ab47e7b02e993e04b51f9434ec74b815290a"), looks := false }, kinds := [], alts := [], laidByText := true, laidKinds := [.data, .listed, .data, .pinned], laidTests := true, laidLooks := .later }
def TestFilesUptoCardSaid : Prop := Claim7.holds Tryd.pinned (.plain (OpenSpec.upto testFilesSpec)) testFilesUptoCard

/-- THE SECOND FORM's CARD OF 'cowrielaw07.TreePaths'. -/
def treePathsUptoCard : Claim7 := { stood := { row := treePathsUptoRow, standIns := [], harness := (true, "c9c4961fc865997eabbcbfc5af06ab47e7b02e993e04b51f9434ec74b815290a"), looks := false }, kinds := [], alts := [], laidByText := true, laidKinds := [.data, .pinned], laidTests := true, laidLooks := .later }
def TreePathsUptoCardSaid : Prop := Claim7.holds Tryd.pinned (.plain (OpenSpec.upto treePathsSpec)) treePathsUptoCard

/-- THE SECOND FORM's CARD OF 'cowrielaw07.TreeOwn'. -/
def treeOwnUptoCard : Claim7 := { stood := { row := treeOwnUptoRow, standIns := [], harness := (true, "c9c4961fc865997eabbcbfc5af06ab47e7b02e993e04b51f9434ec74b815290a"), looks := false }, kinds := [], alts := [], laidByText := true, laidKinds := [.data, .pinned], laidTests := true, laidLooks := .later }
def TreeOwnUptoCardSaid : Prop := Claim7.holds Tryd.pinned (.plain (OpenSpec.upto treeOwnSpec)) treeOwnUptoCard

/-- THE SECOND FORM's CARD OF 'cowrielaw07.TreeAll'. -/
def treeAllUptoCard : Claim7 := { stood := { row := treeAllUptoRow, standIns := [], harness := (true, "c9c4961fc865997eabbcbfc5af06ab47e7b02e993e04b51f9434ec74b815290a"), looks := false }, kinds := [], alts := [], laidByText := true, laidKinds := [.data, .pinned], laidTests := true, laidLooks := .later }
def TreeAllUptoCardSaid : Prop := Claim7.holds Tryd.pinned (.plain (OpenSpec.upto treeAllSpec)) treeAllUptoCard

/-- THE SECOND FORM's CARD OF 'cowrielaw07.TreePuts'. -/
def treePutsUptoCard : Claim7 := { stood := { row := treePutsUptoRow, standIns := [], harness := (true, "c9c4961fc865997eabbcbfc5af06ab47e7b02e993e04b51f9434ec74b815290a"), looks := false }, kinds := [], alts := [], laidByText := true, laidKinds := [.data, .pinned], laidTests := true, laidLooks := .later }
def TreePutsUptoCardSaid : Prop := Claim7.holds Tryd.pinned (.plain (OpenSpec.upto treePutsSpec)) treePutsUptoCard

/-- THE SECOND FORM's CARD OF 'cowrielaw07.TreeLists'. -/
def treeListsUptoCard : Claim7 := { stood := { row := treeListsUptoRow, standIns := [], harness := (true, "c9c4961fc865997eabbcbfc5af06ab47e7b02e993e04b51f9434ec74b815290a"), looks := false }, kinds := [], alts := [], laidByText := true, laidKinds := [.data, .pinned], laidTests := true, laidLooks := .later }
def TreeListsUptoCardSaid : Prop := Claim7.holds Tryd.pinned (.plain (OpenSpec.upto treeListsSpec)) treeListsUptoCard
end Rows
end Go.Proofs.YtdfddiehiiaepaaDoor

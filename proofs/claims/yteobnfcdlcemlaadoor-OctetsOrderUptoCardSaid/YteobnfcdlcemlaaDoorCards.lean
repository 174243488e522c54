/-
  DERIVED. GIVEN WITH THE SEED: THE CARDS: each row of YteobnfcdlcemlaaDoorRows.lean that lists a variable, with what it lists TIED to the program's text (the seventh form; the later family's looks); each row that meets fmt, with fmt's text TOLD by the authors' own Lean function (tested against real Go, not proved from fmt's source: count such statements apart). THE CARD IS WHAT COUNTS. Prove the row's statement (the work); the ties are given (YteobnfcdlcemlaaDoorTie.lean); close each card by the builder's one call (the guide's Derived/Test/ToyasCard.lean, 'card_holds'). Laid BY PROGRAM, IN A SANDBOX (cutbox-door.mjs). By AI agents, Wed Nov 11 2026. No macro, syntax, notation, axiom, sorry.
-/
import Derived.Test.YteobnfcdlcemlaaDoorRows
import GoSem.ClaimSeven
namespace Go.Proofs.YteobnfcdlcemlaaDoor
namespace Rows

/-- THE TIED CARD OF 'cowrielaw01.OctetsQuotes'. -/
def octetsQuotesCard : Claim7 := { stood := { row := octetsQuotesRow, standIns := [], harness := (true, "d7b274f1e6404ecef5d786994e7dedf6c738058151c9fa415fc5f46569ea5612"), looks := false }, kinds := [], alts := [], laidByText := true, laidKinds := [.data, .listed, .data, .pinned], laidTests := true, laidLooks := .later }
def OctetsQuotesCardSaid : Prop := Claim7.holds Tryd.pinned (.plain (OpenSpec.ofChange octetsQuotesSpec)) octetsQuotesCard

/-- THE TIED CARD OF 'cowrielaw01.OctetsNames'. -/
def octetsNamesCard : Claim7 := { stood := { row := octetsNamesRow, standIns := [], harness := (true, "d7b274f1e6404ecef5d786994e7dedf6c738058151c9fa415fc5f46569ea5612"), looks := false }, kinds := [], alts := [], laidByText := true, laidKinds := [.data, .listed, .data, .pinned], laidTests := true, laidLooks := .later }
def OctetsNamesCardSaid : Prop := Claim7.holds Tryd.pinned (.plain (OpenSpec.ofChange octetsNamesSpec)) octetsNamesCard

/-- THE TIED CARD OF 'cowrielaw01.OctetsLines'. -/
def octetsLinesCard : Claim7 := { stood := { row := octetsLinesRow, standIns := [], harness := (true, "d7b274f1e6404ecef5d786994e7dedf6c738058151c9fa415fc5f46569ea5612"), looks := false }, kinds := [], alts := [], laidByText := true, laidKinds := [.data, .listed, .data, .pinned], laidTests := true, laidLooks := .later }
def OctetsLinesCardSaid : Prop := Claim7.holds Tryd.pinned (.plain (OpenSpec.ofChange octetsLinesSpec)) octetsLinesCard

/-- THE TIED CARD OF 'cowrielaw01.OctetsOrder'. -/
def octetsOrderCard : Claim7 := { stood := { row := octetsOrderRow, standIns := [], harness := (true, "d7b274f1e6404ecef5d786994e7dedf6c738058151c9fa415fc5f46569ea5612"), looks := false }, kinds := [], alts := [], laidByText := true, laidKinds := [.data, .listed, .data, .pinned], laidTests := true, laidLooks := .later }
def OctetsOrderCardSaid : Prop := Claim7.holds Tryd.pinned (.plain (OpenSpec.ofChange octetsOrderSpec)) octetsOrderCard

/-- THE TIED CARD OF 'cowrielaw01.OctetsOwn'. -/
def octetsOwnCard : Claim7 := { stood := { row := octetsOwnRow, standIns := [], harness := (true, "d7b274f1e6404ecef5d786994e7dedf6c738058151c9fa415fc5f46569ea5612"), looks := false }, kinds := [], alts := [], laidByText := true, laidKinds := [.data, .listed, .data, .pinned], laidTests := true, laidLooks := .later }
def OctetsOwnCardSaid : Prop := Claim7.holds Tryd.pinned (.plain (OpenSpec.ofChange octetsOwnSpec)) octetsOwnCard

/-- THE SECOND FORM's CARD OF 'cowrielaw01.OctetsQuotes'. -/
def octetsQuotesUptoCard : Claim7 := { stood := { row := octetsQuotesUptoRow, standIns := [], harness := (true, "d7b274f1e6404ecef5d786994e7dedf6c738058151c9fa415fc5f46569ea5612"), looks := false }, kinds := [], alts := [], laidByText := true, laidKinds := [.data, .listed, .data, .pinned], laidTests := true, laidLooks := .later }
def OctetsQuotesUptoCardSaid : Prop := Claim7.holds Tryd.pinned (.plain (OpenSpec.upto octetsQuotesSpec)) octetsQuotesUptoCard

/-- THE SECOND FORM's CARD OF 'cowrielaw01.OctetsNames'. -/
def octetsNamesUptoCard : Claim7 := { stood := { row := octetsNamesUptoRow, standIns := [], harness := (true, "d7b274f1e6404ecef5d786994e7dedf6c738058151c9fa415fc5f46569ea5612"), looks := false }, kinds := [], alts := [], laidByText := true, laidKinds := [.data, .listed, .data, .pinned], laidTests := true, laidLooks := .later }
def OctetsNamesUptoCardSaid : Prop := Claim7.holds Tryd.pinned (.plain (OpenSpec.upto octetsNamesSpec)) octetsNamesUptoCard

/-- THE SECOND FORM's CARD OF 'cowrielaw01.OctetsLines'. -/
def octetsLinesUptoCard : Claim7 := { stood := { row := octetsLinesUptoRow, standIns := [], harness := (true, "d7b274f1e6404ecef5d786994e7dedf6c738058151c9fa415fc5f46569ea5612"), looks := false }, kinds := [], alts := [], laidByText := true, laidKinds := [.data, .listed, .data, .pinned], laidTests := true, laidLooks := .later }
def OctetsLinesUptoCardSaid : Prop := Claim7.holds Tryd.pinned (.plain (OpenSpec.upto octetsLinesSpec)) octetsLinesUptoCard

/-- THE SECOND FORM's CARD OF 'cowrielaw01.OctetsOrder'. -/
def octetsOrderUptoCard : Claim7 := { stood := { row := octetsOrderUptoRow, standIns := [], harness := (true, "d7b274f1e6404ecef5d786994e7dedf6c738058151c9fa415fc5f46569ea5612"), looks := false }, kinds := [], alts := [], laidByText := true, laidKinds := [.data, .listed, .data, .pinned], laidTests := true, laidLooks := .later }
def OctetsOrderUptoCardSaid : Prop := Claim7.holds Tryd.pinned (.plain (OpenSpec.upto octetsOrderSpec)) octetsOrderUptoCard

/-- THE SECOND FORM's CARD OF 'cowrielaw01.OctetsOwn'. -/
def octetsOwnUptoCard : Claim7 := { stood := { row := octetsOwnUptoRow, standIns := [], harness := (true, "d7b274f1e6404ecef5d786994e7dedf6c738058151c9fa415fc5f46569ea5612"), looks := false }, kinds := [], alts := [], laidByText := true, laidKinds := [.data, .listed, .data, .pinned], laidTests := true, laidLooks := .later }
def OctetsOwnUptoCardSaid : Prop := Claim7.holds Tryd.pinned (.plain (OpenSpec.upto octetsOwnSpec)) octetsOwnUptoCard
end Rows
end Go.Proofs.YteobnfcdlcemlaaDoor

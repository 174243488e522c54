/-
  DERIVED. GIVEN WITH THE SEED: THE CARDS: each row of YtbckpnioimhgcaaDoorRows.lean that lists a variable, with what it lists TIED to the program's text (the seventh form; the later family's looks); each row that meets fmt, with fmt's text TOLD by the authors' own Lean function (tested against real Go, not proved from fmt's source: count such statements apart). THE CARD IS WHAT COUNTS. Prove the row's statement (the work); the ties are given (YtbckpnioimhgcaaDoorTie.lean); close each card by the builder's one call (the guide's Derived/Test/ToyasCard.lean, 'card_holds'). Laid BY PROGRAM, IN A SANDBOX (cutbox-door.mjs). By AI agents, Wed Nov 11 2026. No macro, syntax, notation, axiom, sorry.
-/
import Derived.Test.YtbckpnioimhgcaaDoorRows
import GoSem.ClaimSeven
namespace Go.Proofs.YtbckpnioimhgcaaDoor
namespace Rows

/-- THE TIED CARD OF 'cowrielaw11.TextsSwaps'. -/
def textsSwapsCard : Claim7 := { stood := { row := textsSwapsRow, standIns := [], harness := (true, "3103a9f94c22cdff41ddb1c25c65347b8f5e47f7b49d44aa3785c4f40bbd6fd3"), looks := false }, kinds := [], alts := [], laidByText := true, laidKinds := [.data, .pinned], laidTests := true, laidLooks := .later }
def TextsSwapsCardSaid : Prop := Claim7.holds Tryd.pinned (.plain (OpenSpec.ofChange textsSwapsSpec)) textsSwapsCard

/-- THE TIED CARD OF 'cowrielaw11.TextsCount'. -/
def textsCountCard : Claim7 := { stood := { row := textsCountRow, standIns := [], harness := (true, "3103a9f94c22cdff41ddb1c25c65347b8f5e47f7b49d44aa3785c4f40bbd6fd3"), looks := false }, kinds := [], alts := [], laidByText := true, laidKinds := [.data, .pinned], laidTests := true, laidLooks := .later }
def TextsCountCardSaid : Prop := Claim7.holds Tryd.pinned (.plain (OpenSpec.ofChange textsCountSpec)) textsCountCard

/-- THE TIED CARD OF 'cowrielaw11.TextsRev'. -/
def textsRevCard : Claim7 := { stood := { row := textsRevRow, standIns := [], harness := (true, "3103a9f94c22cdff41ddb1c25c65347b8f5e47f7b49d44aa3785c4f40bbd6fd3"), looks := false }, kinds := [], alts := [], laidByText := true, laidKinds := [.data, .pinned], laidTests := true, laidLooks := .later }
def TextsRevCardSaid : Prop := Claim7.holds Tryd.pinned (.plain (OpenSpec.ofChange textsRevSpec)) textsRevCard

/-- THE TIED CARD OF 'cowrielaw11.TextsEnds'. -/
def textsEndsCard : Claim7 := { stood := { row := textsEndsRow, standIns := [], harness := (true, "3103a9f94c22cdff41ddb1c25c65347b8f5e47f7b49d44aa3785c4f40bbd6fd3"), looks := false }, kinds := [], alts := [], laidByText := true, laidKinds := [.data, .pinned], laidTests := true, laidLooks := .later }
def TextsEndsCardSaid : Prop := Claim7.holds Tryd.pinned (.plain (OpenSpec.ofChange textsEndsSpec)) textsEndsCard

/-- THE TIED CARD OF 'cowrielaw11.TextsSorted'. -/
def textsSortedCard : Claim7 := { stood := { row := textsSortedRow, standIns := [], harness := (true, "3103a9f94c22cdff41ddb1c25c65347b8f5e47f7b49d44aa3785c4f40bbd6fd3"), looks := false }, kinds := [], alts := [], laidByText := true, laidKinds := [.data, .pinned], laidTests := true, laidLooks := .later }
def TextsSortedCardSaid : Prop := Claim7.holds Tryd.pinned (.plain (OpenSpec.ofChange textsSortedSpec)) textsSortedCard

/-- THE SECOND FORM's CARD OF 'cowrielaw11.TextsSwaps'. -/
def textsSwapsUptoCard : Claim7 := { stood := { row := textsSwapsUptoRow, standIns := [], harness := (true, "3103a9f94c22cdff41ddb1c25c65347b8f5e47f7b49d44aa3785c4f40bbd6fd3"), looks := false }, kinds := [], alts := [], laidByText := true, laidKinds := [.data, .pinned], laidTests := true, laidLooks := .later }
def TextsSwapsUptoCardSaid : Prop := Claim7.holds Tryd.pinned (.plain (OpenSpec.upto textsSwapsSpec)) textsSwapsUptoCard

/-- THE SECOND FORM's CARD OF 'cowrielaw11.TextsCount'. -/
def textsCountUptoCard : Claim7 := { stood := { row := textsCountUptoRow, standIns := [], harness := (true, "3103a9f94c22cdff41ddb1c25c65347b8f5e47f7b49d44aa3785c4f40bbd6fd3"), looks := false }, kinds := [], alts := [], laidByText := true, laidKinds := [.data, .pinned], laidTests := true, laidLooks := .later }
def TextsCountUptoCardSaid : Prop := Claim7.holds Tryd.pinned (.plain (OpenSpec.upto textsCountSpec)) textsCountUptoCard

/-- THE SECOND FORM's CARD OF 'cowrielaw11.TextsRev'. -/
def textsRevUptoCard : Claim7 := { stood := { row := textsRevUptoRow, standIns := [], harness := (true, "3103a9f94c22cdff41ddb1c25c65347b8f5e47f7b49d44aa3785c4f40bbd6fd3"), looks := false }, kinds := [], alts := [], laidByText := true, laidKinds := [.data, .pinned], laidTests := true, laidLooks := .later }
def TextsRevUptoCardSaid : Prop := Claim7.holds Tryd.pinned (.plain (OpenSpec.upto textsRevSpec)) textsRevUptoCard

/-- THE SECOND FORM's CARD OF 'cowrielaw11.TextsEnds'. -/
def textsEndsUptoCard : Claim7 := { stood := { row := textsEndsUptoRow, standIns := [], harness := (true, "3103a9f94c22cdff41ddb1c25c65347b8f5e47f7b49d44aa3785c4f40bbd6fd3"), looks := false }, kinds := [], alts := [], laidByText := true, laidKinds := [.data, .pinned], laidTests := true, laidLooks := .later }
def TextsEndsUptoCardSaid : Prop := Claim7.holds Tryd.pinned (.plain (OpenSpec.upto textsEndsSpec)) textsEndsUptoCard

/-- THE SECOND FORM's CARD OF 'cowrielaw11.TextsSorted'. -/
def textsSortedUptoCard : Claim7 := { stood := { row := textsSortedUptoRow, standIns := [], harness := (true, "3103a9f94c22cdff41ddb1c25c65347b8f5e47f7b49d44aa3785c4f40bbd6fd3"), looks := false }, kinds := [], alts := [], laidByText := true, laidKinds := [.data, .pinned], laidTests := true, laidLooks := .later }
def TextsSortedUptoCardSaid : Prop := Claim7.holds Tryd.pinned (.plain (OpenSpec.upto textsSortedSpec)) textsSortedUptoCard
end Rows
end Go.Proofs.YtbckpnioimhgcaaDoor

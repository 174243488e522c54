/-
  DERIVED. GIVEN WITH THE SEED: THE CARDS: each row of YtciflnnagkdjiaaDoorRows.lean that lists a variable, with what it lists TIED to the program's text (the seventh form; the later family's looks); each row that meets fmt, with fmt's text TOLD by the authors' own Lean function (tested against real Go, not proved from fmt's source: count such statements apart). THE CARD IS WHAT COUNTS. Prove the row's statement (the work); the ties are given (YtciflnnagkdjiaaDoorTie.lean); close each card by the builder's one call (the guide's Derived/Test/ToyasCard.lean, 'card_holds'). Laid BY PROGRAM, IN A SANDBOX (cutbox-door.mjs). By AI agents, Wed Nov 11 2026. No macro, syntax, notation, axiom, sorry.
-/
import Derived.Test.YtciflnnagkdjiaaDoorRows
import GoSem.ClaimSeven
namespace Go.Proofs.YtciflnnagkdjiaaDoor
namespace Rows

/-- THE TIED CARD OF 'cowrielaw17.BraceQuoted'. -/
def braceQuotedCard : Claim7 := { stood := { row := braceQuotedRow, standIns := [], harness := (true, "6a61b867356ba8b31dddb18cb154cf7a22962deb0975bf761ad0ac013650082d"), looks := true }, kinds := [], alts := [], laidByText := true, laidKinds := [.data, .pinned], laidTests := true, laidLooks := .later }
def BraceQuotedCardSaid : Prop := Claim7.holds Tryd.pinned (.plain (OpenSpec.ofChange braceQuotedSpec)) braceQuotedCard

/-- THE TIED CARD OF 'cowrielaw17.BraceLists'. -/
def braceListsCard : Claim7 := { stood := { row := braceListsRow, standIns := [], harness := (true, "6a61b867356ba8b31dddb18cb154cf7a22962deb0975bf761ad0ac013650082d"), looks := true }, kinds := [], alts := [], laidByText := true, laidKinds := [.data, .pinned], laidTests := true, laidLooks := .later }
def BraceListsCardSaid : Prop := Claim7.holds Tryd.pinned (.plain (OpenSpec.ofChange braceListsSpec)) braceListsCard

/-- THE TIED CARD OF 'cowrielaw17.BraceSpans'. -/
def braceSpansCard : Claim7 := { stood := { row := braceSpansRow, standIns := [], harness := (true, "6a61b867356ba8b31dddb18cb154cf7a22962deb0975bf761ad0ac013650082d"), looks := true }, kinds := [], alts := [], laidByText := true, laidKinds := [.data, .pinned], laidTests := true, laidLooks := .later }
def BraceSpansCardSaid : Prop := Claim7.holds Tryd.pinned (.plain (OpenSpec.ofChange braceSpansSpec)) braceSpansCard

/-- THE TIED CARD OF 'cowrielaw17.BraceOnce'. -/
def braceOnceCard : Claim7 := { stood := { row := braceOnceRow, standIns := [], harness := (true, "6a61b867356ba8b31dddb18cb154cf7a22962deb0975bf761ad0ac013650082d"), looks := true }, kinds := [], alts := [], laidByText := true, laidKinds := [.data, .pinned], laidTests := true, laidLooks := .later }
def BraceOnceCardSaid : Prop := Claim7.holds Tryd.pinned (.plain (OpenSpec.ofChange braceOnceSpec)) braceOnceCard

/-- THE TIED CARD OF 'cowrielaw17.BraceTells'. -/
def braceTellsCard : Claim7 := { stood := { row := braceTellsRow, standIns := [], harness := (true, "6a61b867356ba8b31dddb18cb154cf7a22962deb0975bf761ad0ac013650082d"), looks := true }, kinds := [], alts := [], laidByText := true, laidKinds := [.data, .pinned], laidTests := true, laidLooks := .later }
def BraceTellsCardSaid : Prop := Claim7.holds Tryd.pinned (.plain (OpenSpec.ofChange braceTellsSpec)) braceTellsCard

/-- THE SECOND FORM's CARD OF 'cowrielaw17.BraceQuoted'. -/
def braceQuotedUptoCard : Claim7 := { stood := { row := braceQuotedUptoRow, standIns := [], harness := (true, "6a61b867356ba8b31dddb18cb154cf7a22962deb0975bf761ad0ac013650082d"), looks := true }, kinds := [], alts := [], laidByText := true, laidKinds := [.data, .pinned], laidTests := true, laidLooks := .later }
def BraceQuotedUptoCardSaid : Prop := Claim7.holds Tryd.pinned (.plain (OpenSpec.upto braceQuotedSpec)) braceQuotedUptoCard

/-- THE SECOND FORM's CARD OF 'cowrielaw17.BraceLists'. -/
def braceListsUptoCard : Claim7 := { stood := { row := braceListsUptoRow, standIns := [], harness := (true, "6a61b867356ba8b31dddb18cb154cf7a22962deb0975bf761ad0ac013650082d"), looks := true }, kinds := [], alts := [], laidByText := true, laidKinds := [.data, .pinned], laidTests := true, laidLooks := .later }
def BraceListsUptoCardSaid : Prop := Claim7.holds Tryd.pinned (.plain (OpenSpec.upto braceListsSpec)) braceListsUptoCard

/-- THE SECOND FORM's CARD OF 'cowrielaw17.BraceSpans'. -/
def braceSpansUptoCard : Claim7 := { stood := { row := braceSpansUptoRow, standIns := [], harness := (true, "6a61b867356ba8b31dddb18cb154cf7a22962deb0975bf761ad0ac013650082d"), looks := true }, kinds := [], alts := [], laidByText := true, laidKinds := [.data, .pinned], laidTests := true, laidLooks := .later }
def BraceSpansUptoCardSaid : Prop := Claim7.holds Tryd.pinned (.plain (OpenSpec.upto braceSpansSpec)) braceSpansUptoCard

/-- THE SECOND FORM's CARD OF 'cowrielaw17.BraceOnce'. -/
def braceOnceUptoCard : Claim7 := { stood := { row := braceOnceUptoRow, standIns := [], harness := (true, "6a61b867356ba8b31dddb18cb154cf7a22962deb0975bf761ad0ac013650082d"), looks := true }, kinds := [], alts := [], laidByText := true, laidKinds := [.data, .pinned], laidTests := true, laidLooks := .later }
def BraceOnceUptoCardSaid : Prop := Claim7.holds Tryd.pinned (.plain (OpenSpec.upto braceOnceSpec)) braceOnceUptoCard

/-- THE SECOND FORM's CARD OF 'cowrielaw17.BraceTells'. -/
def braceTellsUptoCard : Claim7 := { stood := { row := braceTellsUptoRow, standIns := [], harness := (true, "6a61b867356ba8b31dddb18cb154cf7a22962deb0975bf761ad0ac013650082d"), looks := true }, kinds := [], alts := [], laidByText := true, laidKinds := [.data, .pinned], laidTests := true, laidLooks := .later }
def BraceTellsUptoCardSaid : Prop := Claim7.holds Tryd.pinned (.plain (OpenSpec.upto braceTellsSpec)) braceTellsUptoCard
end Rows
end Go.Proofs.YtciflnnagkdjiaaDoor

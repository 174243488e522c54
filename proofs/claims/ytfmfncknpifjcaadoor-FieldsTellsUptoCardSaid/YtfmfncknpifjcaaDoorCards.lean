/-
  DERIVED. GIVEN WITH THE SEED: THE CARDS: each row of YtfmfncknpifjcaaDoorRows.lean that lists a variable, with what it lists TIED to the program's text (the seventh form; the later family's looks); each row that meets fmt, with fmt's text TOLD by the authors' own Lean function (tested against real Go, not proved from fmt's source: count such statements apart). THE CARD IS WHAT COUNTS. Prove the row's statement (the work); the ties are given (YtfmfncknpifjcaaDoorTie.lean); close each card by the builder's one call (the guide's Derived/Test/ToyasCard.lean, 'card_holds'). Laid BY PROGRAM, IN A SANDBOX (cutbox-door.mjs). By AI agents, Wed Nov 11 2026. No macro, syntax, notation, axiom, sorry.
-/
import Derived.Test.YtfmfncknpifjcaaDoorRows
import GoSem.ClaimSeven
namespace Go.Proofs.YtfmfncknpifjcaaDoor
namespace Rows

/-- THE TIED CARD OF 'cowrielaw08.FieldsWords'. -/
def fieldsWordsCard : Claim7 := { stood := { row := fieldsWordsRow, standIns := [], harness := (true, "1c65ee695b5bd93f406825f8010801e3a0fc192ecb4ff8d4572f7ee35098efca"), looks := false }, kinds := [], alts := [], laidByText := true, laidKinds := [.data, .pinned], laidTests := true, laidLooks := .later }
def FieldsWordsCardSaid : Prop := Claim7.holds Tryd.pinned (.plain (OpenSpec.ofChange fieldsWordsSpec)) fieldsWordsCard

/-- THE TIED CARD OF 'cowrielaw08.FieldsTells'. -/
def fieldsTellsCard : Claim7 := { stood := { row := fieldsTellsRow, standIns := [], harness := (true, "1c65ee695b5bd93f406825f8010801e3a0fc192ecb4ff8d4572f7ee35098efca"), looks := false }, kinds := [], alts := [], laidByText := true, laidKinds := [.data, .pinned], laidTests := true, laidLooks := .later }
def FieldsTellsCardSaid : Prop := Claim7.holds Tryd.pinned (.plain (OpenSpec.ofChange fieldsTellsSpec)) fieldsTellsCard

/-- THE SECOND FORM's CARD OF 'cowrielaw08.FieldsWords'. -/
def fieldsWordsUptoCard : Claim7 := { stood := { row := fieldsWordsUptoRow, standIns := [], harness := (true, "1c65ee695b5bd93f406825f8010801e3a0fc192ecb4ff8d4572f7ee35098efca"), looks := false }, kinds := [], alts := [], laidByText := true, laidKinds := [.data, .pinned], laidTests := true, laidLooks := .later }
def FieldsWordsUptoCardSaid : Prop := Claim7.holds Tryd.pinned (.plain (OpenSpec.upto fieldsWordsSpec)) fieldsWordsUptoCard

/-- THE SECOND FORM's CARD OF 'cowrielaw08.FieldsTells'. -/
def fieldsTellsUptoCard : Claim7 := { stood := { row := fieldsTellsUptoRow, standIns := [], harness := (true, "1c65ee695b5bd93f406825f8010801e3a0fc192ecb4ff8d4572f7ee35098efca"), looks := false }, kinds := [], alts := [], laidByText := true, laidKinds := [.data, .pinned], laidTests := true, laidLooks := .later }
def FieldsTellsUptoCardSaid : Prop := Claim7.holds Tryd.pinned (.plain (OpenSpec.upto fieldsTellsSpec)) fieldsTellsUptoCard
end Rows
end Go.Proofs.YtfmfncknpifjcaaDoor

/-
  No cell of these rows narrows 'for every input' (looked for: loops, veiled, ifaces, maps, wideKeys, modest, calm, conditions, laid).
  DERIVED. THE GIVEN ROWS OF THIS SEAT. 4 by the template 'for every input the law returns true; each argument reads behind the call as it read before'; 0 by the template 'total and deterministic' (their statements: YtfmfncknpifjcaaTotals.lean).
  GIVEN WITH THE SEED: the statements are not yours to turn. If you find one false, say at which input.
  Laid BY PROGRAM, IN A SANDBOX (cutbox-rows.mjs): the forced cells as the released guide's own fill.sh prints them over the translation cdf94fc428830311… (all of the seat's roots in one cut). By AI agents, Wed Nov 11 2026. No macro, syntax, notation, axiom, sorry.
-/
import Derived.Test.YtfmfncknpifjcaaChecked
import GoSem.Claim
import GoSem.ClaimJoined
import GoSem.ClaimMapViews
import Derived.JoinedTies
import Derived.KernelRfl
namespace Go.Proofs.Ytfmfncknpifjcaa
/- THE CELL 'sum', in the pinned program and in every row, IS THE sha256 OF THE DUMP (.gsa) THAT YtfmfncknpifjcaaProg.lean LOADS. Nothing in Lean hashes anything: it is a label: what it is worth is what the hold of that sum in a sandbox is worth. -/
noncomputable def Try.pinned : Pinned := { name := "ytfmfncknpifjcaa", sum := "cdf94fc42883031159ce4f3ece3a8f48ba6d9a3ff6b309b177fed9bf9a047e16", checked := Try.checked }
namespace Rows
def none {H : Type} : Left H := { results := [], args := [] }

/-- 'cowrielaw08.FieldsQuoted': WHATEVER THE INPUT: true; the input reads as it did. -/
def fieldsQuotedSpec : ChangeSpec := { name := "fieldsQuoted", fn := fun _ => fun
  | [d1, d2] => { results := [.lit (.bool true)], args := [d1, d2] }
  | _ => none }
def fieldsQuotedRow : OpenClaim := { program := "ytfmfncknpifjcaa", sum := "cdf94fc42883031159ce4f3ece3a8f48ba6d9a3ff6b309b177fed9bf9a047e16", func := "cowrie/cowrielaw08.FieldsQuoted", spec := "fieldsQuoted", inPlace := ["internal/bytealg.IndexByteString"], unfollowed := true, recurses := true, apart := false }
def FieldsQuotedSaid : Prop := fieldsQuotedRow.holds Try.pinned (OpenSpec.ofChange fieldsQuotedSpec)

/-- ITS FALSE NEIGHBOUR: 'it returns false'. Refute it at one input. -/
def fieldsQuotedWrong : ChangeSpec := { name := "fieldsQuoted", fn := fun _ => fun
  | [d1, d2] => { results := [.lit (.bool false)], args := [d1, d2] }
  | _ => none }
def FieldsQuotedWrongFalsely : Prop := fieldsQuotedRow.holds Try.pinned (OpenSpec.ofChange fieldsQuotedWrong)

/-- 'cowrielaw08.FieldsJoin': WHATEVER THE INPUT: true; the input reads as it did. -/
def fieldsJoinSpec : ChangeSpec := { name := "fieldsJoin", fn := fun _ => fun
  | [d1, d2] => { results := [.lit (.bool true)], args := [d1, d2] }
  | _ => none }
def fieldsJoinRow : OpenClaim := { program := "ytfmfncknpifjcaa", sum := "cdf94fc42883031159ce4f3ece3a8f48ba6d9a3ff6b309b177fed9bf9a047e16", func := "cowrie/cowrielaw08.FieldsJoin", spec := "fieldsJoin", inPlace := ["internal/bytealg.IndexByteString"], unfollowed := true, recurses := true, apart := false }
def FieldsJoinSaid : Prop := fieldsJoinRow.holds Try.pinned (OpenSpec.ofChange fieldsJoinSpec)

/-- ITS FALSE NEIGHBOUR: 'it returns false'. Refute it at one input. -/
def fieldsJoinWrong : ChangeSpec := { name := "fieldsJoin", fn := fun _ => fun
  | [d1, d2] => { results := [.lit (.bool false)], args := [d1, d2] }
  | _ => none }
def FieldsJoinWrongFalsely : Prop := fieldsJoinRow.holds Try.pinned (OpenSpec.ofChange fieldsJoinWrong)

/-- 'cowrielaw08.FieldsOwn': WHATEVER THE INPUT: true; the input reads as it did. -/
def fieldsOwnSpec : ChangeSpec := { name := "fieldsOwn", fn := fun _ => fun
  | [d1, d2] => { results := [.lit (.bool true)], args := [d1, d2] }
  | _ => none }
def fieldsOwnRow : OpenClaim := { program := "ytfmfncknpifjcaa", sum := "cdf94fc42883031159ce4f3ece3a8f48ba6d9a3ff6b309b177fed9bf9a047e16", func := "cowrie/cowrielaw08.FieldsOwn", spec := "fieldsOwn", inPlace := ["internal/bytealg.IndexByteString"], unfollowed := true, recurses := true, apart := false }
def FieldsOwnSaid : Prop := fieldsOwnRow.holds Try.pinned (OpenSpec.ofChange fieldsOwnSpec)

/-- ITS FALSE NEIGHBOUR: 'it returns false'. Refute it at one input. -/
def fieldsOwnWrong : ChangeSpec := { name := "fieldsOwn", fn := fun _ => fun
  | [d1, d2] => { results := [.lit (.bool false)], args := [d1, d2] }
  | _ => none }
def FieldsOwnWrongFalsely : Prop := fieldsOwnRow.holds Try.pinned (OpenSpec.ofChange fieldsOwnWrong)

/-- 'cowrielaw08.FieldsMarks': WHATEVER THE INPUT: true; the input reads as it did. -/
def fieldsMarksSpec : ChangeSpec := { name := "fieldsMarks", fn := fun _ => fun
  | [d] => { results := [.lit (.bool true)], args := [d] }
  | _ => none }
def fieldsMarksRow : OpenClaim := { program := "ytfmfncknpifjcaa", sum := "cdf94fc42883031159ce4f3ece3a8f48ba6d9a3ff6b309b177fed9bf9a047e16", func := "cowrie/cowrielaw08.FieldsMarks", spec := "fieldsMarks", inPlace := ["internal/bytealg.IndexByteString", "internal/abi.NoEscape"], unfollowed := true, recurses := true, apart := false }
def FieldsMarksSaid : Prop := fieldsMarksRow.holds Try.pinned (OpenSpec.ofChange fieldsMarksSpec)

/-- ITS FALSE NEIGHBOUR: 'it returns false'. Refute it at one input. -/
def fieldsMarksWrong : ChangeSpec := { name := "fieldsMarks", fn := fun _ => fun
  | [d] => { results := [.lit (.bool false)], args := [d] }
  | _ => none }
def FieldsMarksWrongFalsely : Prop := fieldsMarksRow.holds Try.pinned (OpenSpec.ofChange fieldsMarksWrong)

/- THE SECOND FORM. 'bulk': how many values and letters a reading holds, each counted each time it is reached (what is shared counts as often as it is met; a slice's spare places count too). A statement '..UptoSaid' is the law's where the arguments, and the package variables that the reading takes, are together of bulk at most 1048576: NARROWER than '..Said'. Prove '..Said' where nothing that the law and all that it calls make is longer than what came in: it says more and counts as full. Else prove '..UptoSaid'. A law counts once. -/
mutual
def uptoBulk {H : Type} : DataW H → Nat
  | .lit (.string bytes) => bytes.length + 1
  | .lit _ => 1
  | .nil => 1
  | .ptr d => uptoBulk d + 1
  | .slice elems spare => uptoBulkAll elems + uptoBulkAll spare + 1
  | .agg parts => uptoBulkAll parts + 1
  | .iface _ d => uptoBulk d + 1
  | .map entries => uptoBulkEntries entries + 1
  | .held _ => 1
def uptoBulkAll {H : Type} : List (DataW H) → Nat
  | [] => 0
  | d :: r => uptoBulk d + uptoBulkAll r
def uptoBulkEntries {H : Type} : List (Lit × DataW H) → Nat
  | [] => 0
  | x :: r => uptoBulkEntry x + uptoBulkEntries r
def uptoBulkEntry {H : Type} : Lit × DataW H → Nat
  | (.string bytes, d) => bytes.length + uptoBulk d + 1
  | (_, d) => uptoBulk d + 1
 end
def uptoSmall : (H : Type) → List (DataW H) → Bool := fun _ ds => decide (uptoBulkAll ds ≤ 1048576)
def OpenSpec.upto (s : _root_.Go.ChangeSpec) : _root_.Go.OpenSpec := { _root_.Go.OpenSpec.ofChange s with cond := some uptoSmall }

/-- 'cowrielaw08.FieldsQuoted', WHERE WHAT IT READS IS OF BULK AT MOST 1048576: true; the input reads as it did. -/
def fieldsQuotedUptoRow : OpenClaim := { program := "ytfmfncknpifjcaa", sum := "cdf94fc42883031159ce4f3ece3a8f48ba6d9a3ff6b309b177fed9bf9a047e16", func := "cowrie/cowrielaw08.FieldsQuoted", spec := "fieldsQuoted", inPlace := ["internal/bytealg.IndexByteString"], unfollowed := true, recurses := true, apart := false, narrowed := true }
def FieldsQuotedUptoSaid : Prop := fieldsQuotedUptoRow.holds Try.pinned (OpenSpec.upto fieldsQuotedSpec)

/-- 'cowrielaw08.FieldsJoin', WHERE WHAT IT READS IS OF BULK AT MOST 1048576: true; the input reads as it did. -/
def fieldsJoinUptoRow : OpenClaim := { program := "ytfmfncknpifjcaa", sum := "cdf94fc42883031159ce4f3ece3a8f48ba6d9a3ff6b309b177fed9bf9a047e16", func := "cowrie/cowrielaw08.FieldsJoin", spec := "fieldsJoin", inPlace := ["internal/bytealg.IndexByteString"], unfollowed := true, recurses := true, apart := false, narrowed := true }
def FieldsJoinUptoSaid : Prop := fieldsJoinUptoRow.holds Try.pinned (OpenSpec.upto fieldsJoinSpec)

/-- 'cowrielaw08.FieldsOwn', WHERE WHAT IT READS IS OF BULK AT MOST 1048576: true; the input reads as it did. -/
def fieldsOwnUptoRow : OpenClaim := { program := "ytfmfncknpifjcaa", sum := "cdf94fc42883031159ce4f3ece3a8f48ba6d9a3ff6b309b177fed9bf9a047e16", func := "cowrie/cowrielaw08.FieldsOwn", spec := "fieldsOwn", inPlace := ["internal/bytealg.IndexByteString"], unfollowed := true, recurses := true, apart := false, narrowed := true }
def FieldsOwnUptoSaid : Prop := fieldsOwnUptoRow.holds Try.pinned (OpenSpec.upto fieldsOwnSpec)

/-- 'cowrielaw08.FieldsMarks', WHERE WHAT IT READS IS OF BULK AT MOST 1048576: true; the input reads as it did. -/
def fieldsMarksUptoRow : OpenClaim := { program := "ytfmfncknpifjcaa", sum := "cdf94fc42883031159ce4f3ece3a8f48ba6d9a3ff6b309b177fed9bf9a047e16", func := "cowrie/cowrielaw08.FieldsMarks", spec := "fieldsMarks", inPlace := ["internal/bytealg.IndexByteString", "internal/abi.NoEscape"], unfollowed := true, recurses := true, apart := false, narrowed := true }
def FieldsMarksUptoSaid : Prop := fieldsMarksUptoRow.holds Try.pinned (OpenSpec.upto fieldsMarksSpec)

end Rows
end Go.Proofs.Ytfmfncknpifjcaa

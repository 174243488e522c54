/-
  NARROWER THAN 'FOR EVERY INPUT', by the rows' own cells (each row's printed sentence says how): TextsSwaps: laid · TextsCount: laid · TextsRev: laid · TextsEnds: laid · TextsSorted: laid.
  DERIVED. THE GIVEN ROWS OF THIS SEAT. 5 by the template 'for every input the law returns true; each argument reads behind the call as it read before'; 0 by the template 'total and deterministic' (their statements: YtbckpnioimhgcaaDoorTotals.lean).
  GIVEN WITH THE SEED: the statements are not yours to turn. If you find one false, say at which input.
  Laid BY PROGRAM, IN A SANDBOX (cutbox-rows.mjs): the forced cells as the released guide's own fill.sh prints them over the translation 72ee636bd9e6224c… (all of the seat's roots in one cut). By AI agents, Wed Nov 11 2026. No macro, syntax, notation, axiom, sorry.
-/
import Derived.Test.YtbckpnioimhgcaaDoorChecked
import GoSem.PinnedTables
import GoSem.Claim
import GoSem.ClaimJoined
import GoSem.ClaimMapViews
import Derived.JoinedTies
import Derived.KernelRfl
namespace Go.Proofs.YtbckpnioimhgcaaDoor
/- THE CELL 'sum', in the pinned program and in every row, IS THE sha256 OF THE DUMP (.gsa) THAT YtbckpnioimhgcaaDoorProg.lean LOADS. Nothing in Lean hashes anything: it is a label: what it is worth is what the hold of that sum in a sandbox is worth. -/
noncomputable def Tryd.pinned : Pinned := { name := "ytbckpnioimhgcaadoor", sum := "72ee636bd9e6224c35687c97953062c7f479486a43d7e708efdd412d6d4d8f63", checked := Tryd.checked }
namespace Rows
def none {H : Type} : Left H := { results := [], args := [] }

/- WHAT THE LISTED PACKAGE-LEVEL VARIABLES READ AS WHEN THE CALL BEGINS. Each datum BY PROGRAM (the guide's laid-datum.mjs) off the statement by which the dump's own 'gosem.cut.vars' lays the variable. In a bare row this is a premise. The card (YtbckpnioimhgcaaDoorCards.lean) ties it to the program's text. -/
def laid_unicode_utf8_acceptRanges {H : Type} : DataW H := .agg [.agg [.lit (.int .u8 128), .lit (.int .u8 191)], .agg [.lit (.int .u8 160), .lit (.int .u8 191)], .agg [.lit (.int .u8 128), .lit (.int .u8 159)], .agg [.lit (.int .u8 144), .lit (.int .u8 191)], .agg [.lit (.int .u8 128), .lit (.int .u8 143)], .agg [.lit (.int .u8 0), .lit (.int .u8 0)], .agg [.lit (.int .u8 0), .lit (.int .u8 0)], .agg [.lit (.int .u8 0), .lit (.int .u8 0)], .agg [.lit (.int .u8 0), .lit (.int .u8 0)], .agg [.lit (.int .u8 0), .lit (.int .u8 0)], .agg [.lit (.int .u8 0), .lit (.int .u8 0)], .agg [.lit (.int .u8 0), .lit (.int .u8 0)], .agg [.lit (.int .u8 0), .lit (.int .u8 0)], .agg [.lit (.int .u8 0), .lit (.int .u8 0)], .agg [.lit (.int .u8 0), .lit (.int .u8 0)], .agg [.lit (.int .u8 0), .lit (.int .u8 0)]]
/-- One of Go's own tables, pinned by name: the form's constant. -/
def laid_unicode_utf8_first : DataW Unit := Go.Pinned.utf8First

/-- 'cowrielaw11.TextsSwaps': WHATEVER THE INPUT: true; the input reads as it did. -/
def textsSwapsSpec : ChangeSpec := { name := "textsSwaps", fn := fun _ => fun
  | [d1, d2] => { results := [.lit (.bool true)], args := [d1, d2] }
  | _ => none }
def textsSwapsRow : OpenClaim := { program := "ytbckpnioimhgcaadoor", sum := "72ee636bd9e6224c35687c97953062c7f479486a43d7e708efdd412d6d4d8f63", func := "cowrie/cowrielaw11.TextsSwaps", spec := "textsSwaps", inPlace := ["internal/bytealg.IndexByteString", "internal/abi.NoEscape", "internal/bytealg.CountString", "internal/bytealg.IndexString", "internal/bytealg.MakeNoZero"], unfollowed := true, recurses := true, named := ["unicode/utf8.first", "unicode/utf8.acceptRanges", "internal/bytealg.MaxLen"], apart := false, laid := [("unicode/utf8.acceptRanges", laid_unicode_utf8_acceptRanges), ("unicode/utf8.first", laid_unicode_utf8_first)] }
def TextsSwapsSaid : Prop := textsSwapsRow.holds Tryd.pinned (OpenSpec.ofChange textsSwapsSpec)

/-- ITS FALSE NEIGHBOUR: 'it returns false'. Refute it at one input. -/
def textsSwapsWrong : ChangeSpec := { name := "textsSwaps", fn := fun _ => fun
  | [d1, d2] => { results := [.lit (.bool false)], args := [d1, d2] }
  | _ => none }
def TextsSwapsWrongFalsely : Prop := textsSwapsRow.holds Tryd.pinned (OpenSpec.ofChange textsSwapsWrong)

/-- 'cowrielaw11.TextsCount': WHATEVER THE INPUT: true; the input reads as it did. -/
def textsCountSpec : ChangeSpec := { name := "textsCount", fn := fun _ => fun
  | [d1, d2] => { results := [.lit (.bool true)], args := [d1, d2] }
  | _ => none }
def textsCountRow : OpenClaim := { program := "ytbckpnioimhgcaadoor", sum := "72ee636bd9e6224c35687c97953062c7f479486a43d7e708efdd412d6d4d8f63", func := "cowrie/cowrielaw11.TextsCount", spec := "textsCount", inPlace := ["internal/bytealg.IndexByteString", "internal/abi.NoEscape", "internal/bytealg.CountString", "internal/bytealg.IndexString", "internal/bytealg.MakeNoZero"], unfollowed := true, recurses := true, named := ["unicode/utf8.first", "unicode/utf8.acceptRanges", "internal/bytealg.MaxLen"], apart := false, laid := [("unicode/utf8.acceptRanges", laid_unicode_utf8_acceptRanges), ("unicode/utf8.first", laid_unicode_utf8_first)] }
def TextsCountSaid : Prop := textsCountRow.holds Tryd.pinned (OpenSpec.ofChange textsCountSpec)

/-- ITS FALSE NEIGHBOUR: 'it returns false'. Refute it at one input. -/
def textsCountWrong : ChangeSpec := { name := "textsCount", fn := fun _ => fun
  | [d1, d2] => { results := [.lit (.bool false)], args := [d1, d2] }
  | _ => none }
def TextsCountWrongFalsely : Prop := textsCountRow.holds Tryd.pinned (OpenSpec.ofChange textsCountWrong)

/-- 'cowrielaw11.TextsRev': WHATEVER THE INPUT: true; the input reads as it did. -/
def textsRevSpec : ChangeSpec := { name := "textsRev", fn := fun _ => fun
  | [d] => { results := [.lit (.bool true)], args := [d] }
  | _ => none }
def textsRevRow : OpenClaim := { program := "ytbckpnioimhgcaadoor", sum := "72ee636bd9e6224c35687c97953062c7f479486a43d7e708efdd412d6d4d8f63", func := "cowrie/cowrielaw11.TextsRev", spec := "textsRev", inPlace := ["internal/bytealg.IndexByteString", "internal/abi.NoEscape", "internal/bytealg.CountString", "internal/bytealg.IndexString", "internal/bytealg.MakeNoZero"], unfollowed := true, recurses := true, named := ["unicode/utf8.first", "unicode/utf8.acceptRanges", "internal/bytealg.MaxLen"], apart := false, laid := [("unicode/utf8.acceptRanges", laid_unicode_utf8_acceptRanges), ("unicode/utf8.first", laid_unicode_utf8_first)] }
def TextsRevSaid : Prop := textsRevRow.holds Tryd.pinned (OpenSpec.ofChange textsRevSpec)

/-- ITS FALSE NEIGHBOUR: 'it returns false'. Refute it at one input. -/
def textsRevWrong : ChangeSpec := { name := "textsRev", fn := fun _ => fun
  | [d] => { results := [.lit (.bool false)], args := [d] }
  | _ => none }
def TextsRevWrongFalsely : Prop := textsRevRow.holds Tryd.pinned (OpenSpec.ofChange textsRevWrong)

/-- 'cowrielaw11.TextsEnds': WHATEVER THE INPUT: true; the input reads as it did. -/
def textsEndsSpec : ChangeSpec := { name := "textsEnds", fn := fun _ => fun
  | [d1, d2] => { results := [.lit (.bool true)], args := [d1, d2] }
  | _ => none }
def textsEndsRow : OpenClaim := { program := "ytbckpnioimhgcaadoor", sum := "72ee636bd9e6224c35687c97953062c7f479486a43d7e708efdd412d6d4d8f63", func := "cowrie/cowrielaw11.TextsEnds", spec := "textsEnds", inPlace := ["internal/bytealg.IndexByteString", "internal/abi.NoEscape", "internal/bytealg.CountString", "internal/bytealg.IndexString", "internal/bytealg.MakeNoZero"], unfollowed := true, recurses := true, named := ["unicode/utf8.first", "unicode/utf8.acceptRanges", "internal/bytealg.MaxLen"], apart := false, laid := [("unicode/utf8.acceptRanges", laid_unicode_utf8_acceptRanges), ("unicode/utf8.first", laid_unicode_utf8_first)] }
def TextsEndsSaid : Prop := textsEndsRow.holds Tryd.pinned (OpenSpec.ofChange textsEndsSpec)

/-- ITS FALSE NEIGHBOUR: 'it returns false'. Refute it at one input. -/
def textsEndsWrong : ChangeSpec := { name := "textsEnds", fn := fun _ => fun
  | [d1, d2] => { results := [.lit (.bool false)], args := [d1, d2] }
  | _ => none }
def TextsEndsWrongFalsely : Prop := textsEndsRow.holds Tryd.pinned (OpenSpec.ofChange textsEndsWrong)

/-- 'cowrielaw11.TextsSorted': WHATEVER THE INPUT: true; the input reads as it did. -/
def textsSortedSpec : ChangeSpec := { name := "textsSorted", fn := fun _ => fun
  | [d] => { results := [.lit (.bool true)], args := [d] }
  | _ => none }
def textsSortedRow : OpenClaim := { program := "ytbckpnioimhgcaadoor", sum := "72ee636bd9e6224c35687c97953062c7f479486a43d7e708efdd412d6d4d8f63", func := "cowrie/cowrielaw11.TextsSorted", spec := "textsSorted", inPlace := ["internal/bytealg.IndexByteString", "internal/abi.NoEscape", "internal/bytealg.CountString", "internal/bytealg.IndexString", "internal/bytealg.MakeNoZero", "internal/bytealg.abigen_runtime_cmpstring"], unfollowed := true, recurses := true, named := ["unicode/utf8.first", "unicode/utf8.acceptRanges", "internal/bytealg.MaxLen"], apart := false, laid := [("unicode/utf8.acceptRanges", laid_unicode_utf8_acceptRanges), ("unicode/utf8.first", laid_unicode_utf8_first)] }
def TextsSortedSaid : Prop := textsSortedRow.holds Tryd.pinned (OpenSpec.ofChange textsSortedSpec)

/-- ITS FALSE NEIGHBOUR: 'it returns false'. Refute it at one input. -/
def textsSortedWrong : ChangeSpec := { name := "textsSorted", fn := fun _ => fun
  | [d] => { results := [.lit (.bool false)], args := [d] }
  | _ => none }
def TextsSortedWrongFalsely : Prop := textsSortedRow.holds Tryd.pinned (OpenSpec.ofChange textsSortedWrong)

/- THE SECOND FORM. 'bulk': how many values and letters a reading holds, each counted each time it is reached (what is shared counts as often as it is met; a slice's spare places count too). A statement '..UptoSaid' is the law's where the arguments, and the package variables that the reading takes, are together of bulk at most 1048576: NARROWER than '..Said'. Prove '..Said' where nothing that the law and all that it calls make is longer than what came in: it says more and counts as full. Else prove '..UptoSaid'. A law counts once. -/
mutual
def uptoBulk {H : Type} : DataW H → Nat
  | .lit (.string bytes) => bytes.length + 1
  | .lit _ => 1
  | .nil => 1
  | .ptr d => uptoBulk d + 1
  | .slice elems spare => uptoBulkAll elems + uptoBulkAll spare + 1
  | .agg parts => uptoBulkAll parts + 1
  | .iface _ d => uptoBulk d + 1
  | .map entries => uptoBulkEntries entries + 1
  | .held _ => 1
def uptoBulkAll {H : Type} : List (DataW H) → Nat
  | [] => 0
  | d :: r => uptoBulk d + uptoBulkAll r
def uptoBulkEntries {H : Type} : List (Lit × DataW H) → Nat
  | [] => 0
  | x :: r => uptoBulkEntry x + uptoBulkEntries r
def uptoBulkEntry {H : Type} : Lit × DataW H → Nat
  | (.string bytes, d) => bytes.length + uptoBulk d + 1
  | (_, d) => uptoBulk d + 1
 end
def uptoSmall : (H : Type) → List (DataW H) → Bool := fun _ ds => decide (uptoBulkAll ds ≤ 1048576)
def OpenSpec.upto (s : _root_.Go.ChangeSpec) : _root_.Go.OpenSpec := { _root_.Go.OpenSpec.ofChange s with cond := some uptoSmall }

/-- 'cowrielaw11.TextsSwaps', WHERE WHAT IT READS IS OF BULK AT MOST 1048576: true; the input reads as it did. -/
def textsSwapsUptoRow : OpenClaim := { program := "ytbckpnioimhgcaadoor", sum := "72ee636bd9e6224c35687c97953062c7f479486a43d7e708efdd412d6d4d8f63", func := "cowrie/cowrielaw11.TextsSwaps", spec := "textsSwaps", inPlace := ["internal/bytealg.IndexByteString", "internal/abi.NoEscape", "internal/bytealg.CountString", "internal/bytealg.IndexString", "internal/bytealg.MakeNoZero"], unfollowed := true, recurses := true, named := ["unicode/utf8.first", "unicode/utf8.acceptRanges", "internal/bytealg.MaxLen"], apart := false, laid := [("unicode/utf8.acceptRanges", laid_unicode_utf8_acceptRanges), ("unicode/utf8.first", laid_unicode_utf8_first)], narrowed := true }
def TextsSwapsUptoSaid : Prop := textsSwapsUptoRow.holds Tryd.pinned (OpenSpec.upto textsSwapsSpec)

/-- 'cowrielaw11.TextsCount', WHERE WHAT IT READS IS OF BULK AT MOST 1048576: true; the input reads as it did. -/
def textsCountUptoRow : OpenClaim := { program := "ytbckpnioimhgcaadoor", sum := "72ee636bd9e6224c35687c97953062c7f479486a43d7e708efdd412d6d4d8f63", func := "cowrie/cowrielaw11.TextsCount", spec := "textsCount", inPlace := ["internal/bytealg.IndexByteString", "internal/abi.NoEscape", "internal/bytealg.CountString", "internal/bytealg.IndexString", "internal/bytealg.MakeNoZero"], unfollowed := true, recurses := true, named := ["unicode/utf8.first", "unicode/utf8.acceptRanges", "internal/bytealg.MaxLen"], apart := false, laid := [("unicode/utf8.acceptRanges", laid_unicode_utf8_acceptRanges), ("unicode/utf8.first", laid_unicode_utf8_first)], narrowed := true }
def TextsCountUptoSaid : Prop := textsCountUptoRow.holds Tryd.pinned (OpenSpec.upto textsCountSpec)

/-- 'cowrielaw11.TextsRev', WHERE WHAT IT READS IS OF BULK AT MOST 1048576: true; the input reads as it did. -/
def textsRevUptoRow : OpenClaim := { program := "ytbckpnioimhgcaadoor", sum := "72ee636bd9e6224c35687c97953062c7f479486a43d7e708efdd412d6d4d8f63", func := "cowrie/cowrielaw11.TextsRev", spec := "textsRev", inPlace := ["internal/bytealg.IndexByteString", "internal/abi.NoEscape", "internal/bytealg.CountString", "internal/bytealg.IndexString", "internal/bytealg.MakeNoZero"], unfollowed := true, recurses := true, named := ["unicode/utf8.first", "unicode/utf8.acceptRanges", "internal/bytealg.MaxLen"], apart := false, laid := [("unicode/utf8.acceptRanges", laid_unicode_utf8_acceptRanges), ("unicode/utf8.first", laid_unicode_utf8_first)], narrowed := true }
def TextsRevUptoSaid : Prop := textsRevUptoRow.holds Tryd.pinned (OpenSpec.upto textsRevSpec)

/-- 'cowrielaw11.TextsEnds', WHERE WHAT IT READS IS OF BULK AT MOST 1048576: true; the input reads as it did. -/
def textsEndsUptoRow : OpenClaim := { program := "ytbckpnioimhgcaadoor", sum := "72ee636bd9e6224c35687c97953062c7f479486a43d7e708efdd412d6d4d8f63", func := "cowrie/cowrielaw11.TextsEnds", spec := "textsEnds", inPlace := ["internal/bytealg.IndexByteString", "internal/abi.NoEscape", "internal/bytealg.CountString", "internal/bytealg.IndexString", "internal/bytealg.MakeNoZero"], unfollowed := true, recurses := true, named := ["unicode/utf8.first", "unicode/utf8.acceptRanges", "internal/bytealg.MaxLen"], apart := false, laid := [("unicode/utf8.acceptRanges", laid_unicode_utf8_acceptRanges), ("unicode/utf8.first", laid_unicode_utf8_first)], narrowed := true }
def TextsEndsUptoSaid : Prop := textsEndsUptoRow.holds Tryd.pinned (OpenSpec.upto textsEndsSpec)

/-- 'cowrielaw11.TextsSorted', WHERE WHAT IT READS IS OF BULK AT MOST 1048576: true; the input reads as it did. -/
def textsSortedUptoRow : OpenClaim := { program := "ytbckpnioimhgcaadoor", sum := "72ee636bd9e6224c35687c97953062c7f479486a43d7e708efdd412d6d4d8f63", func := "cowrie/cowrielaw11.TextsSorted", spec := "textsSorted", inPlace := ["internal/bytealg.IndexByteString", "internal/abi.NoEscape", "internal/bytealg.CountString", "internal/bytealg.IndexString", "internal/bytealg.MakeNoZero", "internal/bytealg.abigen_runtime_cmpstring"], unfollowed := true, recurses := true, named := ["unicode/utf8.first", "unicode/utf8.acceptRanges", "internal/bytealg.MaxLen"], apart := false, laid := [("unicode/utf8.acceptRanges", laid_unicode_utf8_acceptRanges), ("unicode/utf8.first", laid_unicode_utf8_first)], narrowed := true }
def TextsSortedUptoSaid : Prop := textsSortedUptoRow.holds Tryd.pinned (OpenSpec.upto textsSortedSpec)

end Rows
end Go.Proofs.YtbckpnioimhgcaaDoor

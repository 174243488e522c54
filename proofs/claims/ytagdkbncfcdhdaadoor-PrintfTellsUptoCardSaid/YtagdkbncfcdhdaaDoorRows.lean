/-
  NARROWER THAN 'FOR EVERY INPUT', by the rows' own cells (each row's printed sentence says how): PrintfTexts: laid · PrintfWide: laid · PrintfRuns: laid · PrintfNumbers: laid · PrintfPlain: laid · PrintfTells: laid.
  DERIVED. THE GIVEN ROWS OF THIS SEAT. 6 by the template 'for every input the law returns true; each argument reads behind the call as it read before'; 0 by the template 'total and deterministic' (their statements: YtagdkbncfcdhdaaDoorTotals.lean).
  GIVEN WITH THE SEED: the statements are not yours to turn. If you find one false, say at which input.
  Laid BY PROGRAM, IN A SANDBOX (cutbox-rows.mjs): the forced cells as the released guide's own fill.sh prints them over the translation 172e1ceba5c9ac24… (all of the seat's roots in one cut). By AI agents, Wed Nov 11 2026. No macro, syntax, notation, axiom, sorry.
-/
import Derived.Test.YtagdkbncfcdhdaaDoorChecked
import GoSem.PinnedTables
import GoSem.Claim
import GoSem.ClaimJoined
import GoSem.ClaimMapViews
import Derived.JoinedTies
import Derived.KernelRfl
namespace Go.Proofs.YtagdkbncfcdhdaaDoor
/- THE CELL 'sum', in the pinned program and in every row, IS THE sha256 OF THE DUMP (.gsa) THAT YtagdkbncfcdhdaaDoorProg.lean LOADS. Nothing in Lean hashes anything: it is a label: what it is worth is what the hold of that sum in a sandbox is worth. -/
noncomputable def Tryd.pinned : Pinned := { name := "ytagdkbncfcdhdaadoor", sum := "172e1ceba5c9ac2490f39fd21ead65ebb952a7ce04a57378bd0d3b9d56fd42e2", checked := Tryd.checked }
namespace Rows
def none {H : Type} : Left H := { results := [], args := [] }

/- WHAT THE LISTED PACKAGE-LEVEL VARIABLES READ AS WHEN THE CALL BEGINS. Each datum BY PROGRAM (the guide's laid-datum.mjs) off the statement by which the dump's own 'gosem.cut.vars' lays the variable. In a bare row this is a premise. The card (YtagdkbncfcdhdaaDoorCards.lean) ties it to the program's text. -/
def laid_unicode_utf8_acceptRanges {H : Type} : DataW H := .agg [.agg [.lit (.int .u8 128), .lit (.int .u8 191)], .agg [.lit (.int .u8 160), .lit (.int .u8 191)], .agg [.lit (.int .u8 128), .lit (.int .u8 159)], .agg [.lit (.int .u8 144), .lit (.int .u8 191)], .agg [.lit (.int .u8 128), .lit (.int .u8 143)], .agg [.lit (.int .u8 0), .lit (.int .u8 0)], .agg [.lit (.int .u8 0), .lit (.int .u8 0)], .agg [.lit (.int .u8 0), .lit (.int .u8 0)], .agg [.lit (.int .u8 0), .lit (.int .u8 0)], .agg [.lit (.int .u8 0), .lit (.int .u8 0)], .agg [.lit (.int .u8 0), .lit (.int .u8 0)], .agg [.lit (.int .u8 0), .lit (.int .u8 0)], .agg [.lit (.int .u8 0), .lit (.int .u8 0)], .agg [.lit (.int .u8 0), .lit (.int .u8 0)], .agg [.lit (.int .u8 0), .lit (.int .u8 0)], .agg [.lit (.int .u8 0), .lit (.int .u8 0)]]
/-- One of Go's own tables, pinned by name: the form's constant. -/
def laid_unicode_utf8_first : DataW Unit := Go.Pinned.utf8First

/-- 'cowrielaw09.PrintfTexts': WHATEVER THE INPUT: true; the input reads as it did. -/
def printfTextsSpec : ChangeSpec := { name := "printfTexts", fn := fun _ => fun
  | [d] => { results := [.lit (.bool true)], args := [d] }
  | _ => none }
def printfTextsRow : OpenClaim := { program := "ytagdkbncfcdhdaadoor", sum := "172e1ceba5c9ac2490f39fd21ead65ebb952a7ce04a57378bd0d3b9d56fd42e2", func := "cowrie/cowrielaw09.PrintfTexts", spec := "printfTexts", inPlace := ["internal/bytealg.IndexByteString", "internal/abi.NoEscape", "internal/bytealg.IndexString", "internal/bytealg.MakeNoZero"], recurses := true, named := ["unicode/utf8.first", "unicode/utf8.acceptRanges", "internal/bytealg.MaxLen"], apart := false, laid := [("unicode/utf8.acceptRanges", laid_unicode_utf8_acceptRanges), ("unicode/utf8.first", laid_unicode_utf8_first)] }
def PrintfTextsSaid : Prop := printfTextsRow.holds Tryd.pinned (OpenSpec.ofChange printfTextsSpec)

/-- ITS FALSE NEIGHBOUR: 'it returns false'. Refute it at one input. -/
def printfTextsWrong : ChangeSpec := { name := "printfTexts", fn := fun _ => fun
  | [d] => { results := [.lit (.bool false)], args := [d] }
  | _ => none }
def PrintfTextsWrongFalsely : Prop := printfTextsRow.holds Tryd.pinned (OpenSpec.ofChange printfTextsWrong)

/-- 'cowrielaw09.PrintfWide': WHATEVER THE INPUT: true; the input reads as it did. -/
def printfWideSpec : ChangeSpec := { name := "printfWide", fn := fun _ => fun
  | [d1, d2] => { results := [.lit (.bool true)], args := [d1, d2] }
  | _ => none }
def printfWideRow : OpenClaim := { program := "ytagdkbncfcdhdaadoor", sum := "172e1ceba5c9ac2490f39fd21ead65ebb952a7ce04a57378bd0d3b9d56fd42e2", func := "cowrie/cowrielaw09.PrintfWide", spec := "printfWide", inPlace := ["internal/bytealg.IndexByteString", "internal/abi.NoEscape", "internal/bytealg.IndexString", "internal/bytealg.MakeNoZero"], recurses := true, named := ["unicode/utf8.first", "unicode/utf8.acceptRanges", "internal/bytealg.MaxLen"], apart := false, laid := [("unicode/utf8.acceptRanges", laid_unicode_utf8_acceptRanges), ("unicode/utf8.first", laid_unicode_utf8_first)] }
def PrintfWideSaid : Prop := printfWideRow.holds Tryd.pinned (OpenSpec.ofChange printfWideSpec)

/-- ITS FALSE NEIGHBOUR: 'it returns false'. Refute it at one input. -/
def printfWideWrong : ChangeSpec := { name := "printfWide", fn := fun _ => fun
  | [d1, d2] => { results := [.lit (.bool false)], args := [d1, d2] }
  | _ => none }
def PrintfWideWrongFalsely : Prop := printfWideRow.holds Tryd.pinned (OpenSpec.ofChange printfWideWrong)

/-- 'cowrielaw09.PrintfRuns': WHATEVER THE INPUT: true; the input reads as it did. -/
def printfRunsSpec : ChangeSpec := { name := "printfRuns", fn := fun _ => fun
  | [d] => { results := [.lit (.bool true)], args := [d] }
  | _ => none }
def printfRunsRow : OpenClaim := { program := "ytagdkbncfcdhdaadoor", sum := "172e1ceba5c9ac2490f39fd21ead65ebb952a7ce04a57378bd0d3b9d56fd42e2", func := "cowrie/cowrielaw09.PrintfRuns", spec := "printfRuns", inPlace := ["internal/bytealg.IndexByteString", "internal/abi.NoEscape", "internal/bytealg.IndexString", "internal/bytealg.MakeNoZero"], recurses := true, named := ["unicode/utf8.first", "unicode/utf8.acceptRanges", "internal/bytealg.MaxLen"], apart := false, laid := [("unicode/utf8.acceptRanges", laid_unicode_utf8_acceptRanges), ("unicode/utf8.first", laid_unicode_utf8_first)] }
def PrintfRunsSaid : Prop := printfRunsRow.holds Tryd.pinned (OpenSpec.ofChange printfRunsSpec)

/-- ITS FALSE NEIGHBOUR: 'it returns false'. Refute it at one input. -/
def printfRunsWrong : ChangeSpec := { name := "printfRuns", fn := fun _ => fun
  | [d] => { results := [.lit (.bool false)], args := [d] }
  | _ => none }
def PrintfRunsWrongFalsely : Prop := printfRunsRow.holds Tryd.pinned (OpenSpec.ofChange printfRunsWrong)

/-- 'cowrielaw09.PrintfNumbers': WHATEVER THE INPUT: true; the input reads as it did. -/
def printfNumbersSpec : ChangeSpec := { name := "printfNumbers", fn := fun _ => fun
  | [d] => { results := [.lit (.bool true)], args := [d] }
  | _ => none }
def printfNumbersRow : OpenClaim := { program := "ytagdkbncfcdhdaadoor", sum := "172e1ceba5c9ac2490f39fd21ead65ebb952a7ce04a57378bd0d3b9d56fd42e2", func := "cowrie/cowrielaw09.PrintfNumbers", spec := "printfNumbers", inPlace := ["internal/bytealg.IndexByteString", "internal/abi.NoEscape", "internal/bytealg.IndexString", "internal/bytealg.MakeNoZero"], recurses := true, named := ["unicode/utf8.first", "unicode/utf8.acceptRanges", "internal/bytealg.MaxLen"], apart := false, laid := [("unicode/utf8.acceptRanges", laid_unicode_utf8_acceptRanges), ("unicode/utf8.first", laid_unicode_utf8_first)] }
def PrintfNumbersSaid : Prop := printfNumbersRow.holds Tryd.pinned (OpenSpec.ofChange printfNumbersSpec)

/-- ITS FALSE NEIGHBOUR: 'it returns false'. Refute it at one input. -/
def printfNumbersWrong : ChangeSpec := { name := "printfNumbers", fn := fun _ => fun
  | [d] => { results := [.lit (.bool false)], args := [d] }
  | _ => none }
def PrintfNumbersWrongFalsely : Prop := printfNumbersRow.holds Tryd.pinned (OpenSpec.ofChange printfNumbersWrong)

/-- 'cowrielaw09.PrintfPlain': WHATEVER THE INPUT: true; the input reads as it did. -/
def printfPlainSpec : ChangeSpec := { name := "printfPlain", fn := fun _ => fun
  | [d1, d2] => { results := [.lit (.bool true)], args := [d1, d2] }
  | _ => none }
def printfPlainRow : OpenClaim := { program := "ytagdkbncfcdhdaadoor", sum := "172e1ceba5c9ac2490f39fd21ead65ebb952a7ce04a57378bd0d3b9d56fd42e2", func := "cowrie/cowrielaw09.PrintfPlain", spec := "printfPlain", inPlace := ["internal/bytealg.IndexByteString", "internal/abi.NoEscape", "internal/bytealg.IndexString", "internal/bytealg.MakeNoZero"], recurses := true, named := ["unicode/utf8.first", "unicode/utf8.acceptRanges", "internal/bytealg.MaxLen"], apart := false, laid := [("unicode/utf8.acceptRanges", laid_unicode_utf8_acceptRanges), ("unicode/utf8.first", laid_unicode_utf8_first)] }
def PrintfPlainSaid : Prop := printfPlainRow.holds Tryd.pinned (OpenSpec.ofChange printfPlainSpec)

/-- ITS FALSE NEIGHBOUR: 'it returns false'. Refute it at one input. -/
def printfPlainWrong : ChangeSpec := { name := "printfPlain", fn := fun _ => fun
  | [d1, d2] => { results := [.lit (.bool false)], args := [d1, d2] }
  | _ => none }
def PrintfPlainWrongFalsely : Prop := printfPlainRow.holds Tryd.pinned (OpenSpec.ofChange printfPlainWrong)

/-- 'cowrielaw09.PrintfTells': WHATEVER THE INPUT: true; the input reads as it did. -/
def printfTellsSpec : ChangeSpec := { name := "printfTells", fn := fun _ => fun
  | [d1, d2] => { results := [.lit (.bool true)], args := [d1, d2] }
  | _ => none }
def printfTellsRow : OpenClaim := { program := "ytagdkbncfcdhdaadoor", sum := "172e1ceba5c9ac2490f39fd21ead65ebb952a7ce04a57378bd0d3b9d56fd42e2", func := "cowrie/cowrielaw09.PrintfTells", spec := "printfTells", inPlace := ["internal/bytealg.IndexByteString", "internal/abi.NoEscape", "internal/bytealg.IndexString", "internal/bytealg.MakeNoZero"], recurses := true, named := ["unicode/utf8.first", "unicode/utf8.acceptRanges", "internal/bytealg.MaxLen"], apart := false, laid := [("unicode/utf8.acceptRanges", laid_unicode_utf8_acceptRanges), ("unicode/utf8.first", laid_unicode_utf8_first)] }
def PrintfTellsSaid : Prop := printfTellsRow.holds Tryd.pinned (OpenSpec.ofChange printfTellsSpec)

/-- ITS FALSE NEIGHBOUR: 'it returns false'. Refute it at one input. -/
def printfTellsWrong : ChangeSpec := { name := "printfTells", fn := fun _ => fun
  | [d1, d2] => { results := [.lit (.bool false)], args := [d1, d2] }
  | _ => none }
def PrintfTellsWrongFalsely : Prop := printfTellsRow.holds Tryd.pinned (OpenSpec.ofChange printfTellsWrong)

/- THE SECOND FORM. 'bulk': how many values and letters a reading holds, each counted each time it is reached (what is shared counts as often as it is met; a slice's spare places count too). A statement '..UptoSaid' is the law's where the arguments, and the package variables that the reading takes, are together of bulk at most 1048576: NARROWER than '..Said'. Prove '..Said' where nothing that the law and all that it calls make is longer than what came in: it says more and counts as full. Else prove '..UptoSaid'. A law counts once. -/
mutual
def uptoBulk {H : Type} : DataW H → Nat
  | .lit (.string bytes) => bytes.length + 1
  | .lit _ => 1
  | .nil => 1
  | .ptr d => uptoBulk d + 1
  | .slice elems spare => uptoBulkAll elems + uptoBulkAll spare + 1
  | .agg parts => uptoBulkAll parts + 1
  | .iface _ d => uptoBulk d + 1
  | .map entries => uptoBulkEntries entries + 1
  | .held _ => 1
def uptoBulkAll {H : Type} : List (DataW H) → Nat
  | [] => 0
  | d :: r => uptoBulk d + uptoBulkAll r
def uptoBulkEntries {H : Type} : List (Lit × DataW H) → Nat
  | [] => 0
  | x :: r => uptoBulkEntry x + uptoBulkEntries r
def uptoBulkEntry {H : Type} : Lit × DataW H → Nat
  | (.string bytes, d) => bytes.length + uptoBulk d + 1
  | (_, d) => uptoBulk d + 1
 end
def uptoSmall : (H : Type) → List (DataW H) → Bool := fun _ ds => decide (uptoBulkAll ds ≤ 1048576)
def OpenSpec.upto (s : _root_.Go.ChangeSpec) : _root_.Go.OpenSpec := { _root_.Go.OpenSpec.ofChange s with cond := some uptoSmall }

/-- 'cowrielaw09.PrintfTexts', WHERE WHAT IT READS IS OF BULK AT MOST 1048576: true; the input reads as it did. -/
def printfTextsUptoRow : OpenClaim := { program := "ytagdkbncfcdhdaadoor", sum := "172e1ceba5c9ac2490f39fd21ead65ebb952a7ce04a57378bd0d3b9d56fd42e2", func := "cowrie/cowrielaw09.PrintfTexts", spec := "printfTexts", inPlace := ["internal/bytealg.IndexByteString", "internal/abi.NoEscape", "internal/bytealg.IndexString", "internal/bytealg.MakeNoZero"], recurses := true, named := ["unicode/utf8.first", "unicode/utf8.acceptRanges", "internal/bytealg.MaxLen"], apart := false, laid := [("unicode/utf8.acceptRanges", laid_unicode_utf8_acceptRanges), ("unicode/utf8.first", laid_unicode_utf8_first)], narrowed := true }
def PrintfTextsUptoSaid : Prop := printfTextsUptoRow.holds Tryd.pinned (OpenSpec.upto printfTextsSpec)

/-- 'cowrielaw09.PrintfWide', WHERE WHAT IT READS IS OF BULK AT MOST 1048576: true; the input reads as it did. -/
def printfWideUptoRow : OpenClaim := { program := "ytagdkbncfcdhdaadoor", sum := "172e1ceba5c9ac2490f39fd21ead65ebb952a7ce04a57378bd0d3b9d56fd42e2", func := "cowrie/cowrielaw09.PrintfWide", spec := "printfWide", inPlace := ["internal/bytealg.IndexByteString", "internal/abi.NoEscape", "internal/bytealg.IndexString", "internal/bytealg.MakeNoZero"], recurses := true, named := ["unicode/utf8.first", "unicode/utf8.acceptRanges", "internal/bytealg.MaxLen"], apart := false, laid := [("unicode/utf8.acceptRanges", laid_unicode_utf8_acceptRanges), ("unicode/utf8.first", laid_unicode_utf8_first)], narrowed := true }
def PrintfWideUptoSaid : Prop := printfWideUptoRow.holds Tryd.pinned (OpenSpec.upto printfWideSpec)

/-- 'cowrielaw09.PrintfRuns', WHERE WHAT IT READS IS OF BULK AT MOST 1048576: true; the input reads as it did. -/
def printfRunsUptoRow : OpenClaim := { program := "ytagdkbncfcdhdaadoor", sum := "172e1ceba5c9ac2490f39fd21ead65ebb952a7ce04a57378bd0d3b9d56fd42e2", func := "cowrie/cowrielaw09.PrintfRuns", spec := "printfRuns", inPlace := ["internal/bytealg.IndexByteString", "internal/abi.NoEscape", "internal/bytealg.IndexString", "internal/bytealg.MakeNoZero"], recurses := true, named := ["unicode/utf8.first", "unicode/utf8.acceptRanges", "internal/bytealg.MaxLen"], apart := false, laid := [("unicode/utf8.acceptRanges", laid_unicode_utf8_acceptRanges), ("unicode/utf8.first", laid_unicode_utf8_first)], narrowed := true }
def PrintfRunsUptoSaid : Prop := printfRunsUptoRow.holds Tryd.pinned (OpenSpec.upto printfRunsSpec)

/-- 'cowrielaw09.PrintfNumbers', WHERE WHAT IT READS IS OF BULK AT MOST 1048576: true; the input reads as it did. -/
def printfNumbersUptoRow : OpenClaim := { program := "ytagdkbncfcdhdaadoor", sum := "172e1ceba5c9ac2490f39fd21ead65ebb952a7ce04a57378bd0d3b9d56fd42e2", func := "cowrie/cowrielaw09.PrintfNumbers", spec := "printfNumbers", inPlace := ["internal/bytealg.IndexByteString", "internal/abi.NoEscape", "internal/bytealg.IndexString", "internal/bytealg.MakeNoZero"], recurses := true, named := ["unicode/utf8.first", "unicode/utf8.acceptRanges", "internal/bytealg.MaxLen"], apart := false, laid := [("unicode/utf8.acceptRanges", laid_unicode_utf8_acceptRanges), ("unicode/utf8.first", laid_unicode_utf8_first)], narrowed := true }
def PrintfNumbersUptoSaid : Prop := printfNumbersUptoRow.holds Tryd.pinned (OpenSpec.upto printfNumbersSpec)

/-- 'cowrielaw09.PrintfPlain', WHERE WHAT IT READS IS OF BULK AT MOST 1048576: true; the input reads as it did. -/
def printfPlainUptoRow : OpenClaim := { program := "ytagdkbncfcdhdaadoor", sum := "172e1ceba5c9ac2490f39fd21ead65ebb952a7ce04a57378bd0d3b9d56fd42e2", func := "cowrie/cowrielaw09.PrintfPlain", spec := "printfPlain", inPlace := ["internal/bytealg.IndexByteString", "internal/abi.NoEscape", "internal/bytealg.IndexString", "internal/bytealg.MakeNoZero"], recurses := true, named := ["unicode/utf8.first", "unicode/utf8.acceptRanges", "internal/bytealg.MaxLen"], apart := false, laid := [("unicode/utf8.acceptRanges", laid_unicode_utf8_acceptRanges), ("unicode/utf8.first", laid_unicode_utf8_first)], narrowed := true }
def PrintfPlainUptoSaid : Prop := printfPlainUptoRow.holds Tryd.pinned (OpenSpec.upto printfPlainSpec)

/-- 'cowrielaw09.PrintfTells', WHERE WHAT IT READS IS OF BULK AT MOST 1048576: true; the input reads as it did. -/
def printfTellsUptoRow : OpenClaim := { program := "ytagdkbncfcdhdaadoor", sum := "172e1ceba5c9ac2490f39fd21ead65ebb952a7ce04a57378bd0d3b9d56fd42e2", func := "cowrie/cowrielaw09.PrintfTells", spec := "printfTells", inPlace := ["internal/bytealg.IndexByteString", "internal/abi.NoEscape", "internal/bytealg.IndexString", "internal/bytealg.MakeNoZero"], recurses := true, named := ["unicode/utf8.first", "unicode/utf8.acceptRanges", "internal/bytealg.MaxLen"], apart := false, laid := [("unicode/utf8.acceptRanges", laid_unicode_utf8_acceptRanges), ("unicode/utf8.first", laid_unicode_utf8_first)], narrowed := true }
def PrintfTellsUptoSaid : Prop := printfTellsUptoRow.holds Tryd.pinned (OpenSpec.upto printfTellsSpec)

end Rows
end Go.Proofs.YtagdkbncfcdhdaaDoor

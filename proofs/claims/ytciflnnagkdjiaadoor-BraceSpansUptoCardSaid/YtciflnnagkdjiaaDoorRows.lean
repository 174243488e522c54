/-
  NARROWER THAN 'FOR EVERY INPUT', by the rows' own cells (each row's printed sentence says how): BraceQuoted: laid · BraceLists: laid · BraceSpans: laid · BraceOnce: loops, laid · BraceTells: loops, laid.
  DERIVED. THE GIVEN ROWS OF THIS SEAT. 5 by the template 'for every input the law returns true; each argument reads behind the call as it read before'; 0 by the template 'total and deterministic' (their statements: YtciflnnagkdjiaaDoorTotals.lean).
  GIVEN WITH THE SEED: the statements are not yours to turn. If you find one false, say at which input.
  Laid BY PROGRAM, IN A SANDBOX (cutbox-rows.mjs): the forced cells as the released guide's own fill.sh prints them over the translation d2314f28e01f7630… (all of the seat's roots in one cut). By AI agents, Wed Nov 11 2026. No macro, syntax, notation, axiom, sorry.
-/
import Derived.Test.YtciflnnagkdjiaaDoorChecked
import GoSem.PinnedTables
import GoSem.Claim
import GoSem.ClaimJoined
import GoSem.ClaimMapViews
import Derived.JoinedTies
import Derived.KernelRfl
namespace Go.Proofs.YtciflnnagkdjiaaDoor
/- THE CELL 'sum', in the pinned program and in every row, IS THE sha256 OF THE DUMP (.gsa) THAT YtciflnnagkdjiaaDoorProg.lean LOADS. Nothing in Lean hashes anything: it is a label: what it is worth is what the hold of that sum in a sandbox is worth. -/
noncomputable def Tryd.pinned : Pinned := { name := "ytciflnnagkdjiaadoor", sum := "d2314f28e01f763068d2226dfb93afbdb9a8bfc31d7ab81fec46c7504bba4634", checked := Tryd.checked }
namespace Rows
def none {H : Type} : Left H := { results := [], args := [] }

/- WHAT THE LISTED PACKAGE-LEVEL VARIABLES READ AS WHEN THE CALL BEGINS. Each datum BY PROGRAM (the guide's laid-datum.mjs) off the statement by which the dump's own 'gosem.cut.vars' lays the variable. In a bare row this is a premise. The card (YtciflnnagkdjiaaDoorCards.lean) ties it to the program's text. -/
def laid_unicode_utf8_acceptRanges {H : Type} : DataW H := .agg [.agg [.lit (.int .u8 128), .lit (.int .u8 191)], .agg [.lit (.int .u8 160), .lit (.int .u8 191)], .agg [.lit (.int .u8 128), .lit (.int .u8 159)], .agg [.lit (.int .u8 144), .lit (.int .u8 191)], .agg [.lit (.int .u8 128), .lit (.int .u8 143)], .agg [.lit (.int .u8 0), .lit (.int .u8 0)], .agg [.lit (.int .u8 0), .lit (.int .u8 0)], .agg [.lit (.int .u8 0), .lit (.int .u8 0)], .agg [.lit (.int .u8 0), .lit (.int .u8 0)], .agg [.lit (.int .u8 0), .lit (.int .u8 0)], .agg [.lit (.int .u8 0), .lit (.int .u8 0)], .agg [.lit (.int .u8 0), .lit (.int .u8 0)], .agg [.lit (.int .u8 0), .lit (.int .u8 0)], .agg [.lit (.int .u8 0), .lit (.int .u8 0)], .agg [.lit (.int .u8 0), .lit (.int .u8 0)], .agg [.lit (.int .u8 0), .lit (.int .u8 0)]]
/-- One of Go's own tables, pinned by name: the form's constant. -/
def laid_unicode_utf8_first : DataW Unit := Go.Pinned.utf8First

/-- 'cowrielaw17.BraceQuoted': WHATEVER THE INPUT: true; the input reads as it did. -/
def braceQuotedSpec : ChangeSpec := { name := "braceQuoted", fn := fun _ => fun
  | [d] => { results := [.lit (.bool true)], args := [d] }
  | _ => none }
def braceQuotedRow : OpenClaim := { program := "ytciflnnagkdjiaadoor", sum := "d2314f28e01f763068d2226dfb93afbdb9a8bfc31d7ab81fec46c7504bba4634", func := "cowrie/cowrielaw17.BraceQuoted", spec := "braceQuoted", inPlace := ["internal/bytealg.IndexByteString", "internal/bytealg.IndexString"], unfollowed := true, recurses := true, named := ["internal/bytealg.MaxLen", "unicode/utf8.first", "unicode/utf8.acceptRanges"], apart := false, laid := [("unicode/utf8.acceptRanges", laid_unicode_utf8_acceptRanges), ("unicode/utf8.first", laid_unicode_utf8_first)] }
def BraceQuotedSaid : Prop := braceQuotedRow.holds Tryd.pinned (OpenSpec.ofChange braceQuotedSpec)

/-- ITS FALSE NEIGHBOUR: 'it returns false'. Refute it at one input. -/
def braceQuotedWrong : ChangeSpec := { name := "braceQuoted", fn := fun _ => fun
  | [d] => { results := [.lit (.bool false)], args := [d] }
  | _ => none }
def BraceQuotedWrongFalsely : Prop := braceQuotedRow.holds Tryd.pinned (OpenSpec.ofChange braceQuotedWrong)

/-- 'cowrielaw17.BraceLists': WHATEVER THE INPUT: true; the input reads as it did. -/
def braceListsSpec : ChangeSpec := { name := "braceLists", fn := fun _ => fun
  | [d1, d2, d3] => { results := [.lit (.bool true)], args := [d1, d2, d3] }
  | _ => none }
def braceListsRow : OpenClaim := { program := "ytciflnnagkdjiaadoor", sum := "d2314f28e01f763068d2226dfb93afbdb9a8bfc31d7ab81fec46c7504bba4634", func := "cowrie/cowrielaw17.BraceLists", spec := "braceLists", inPlace := ["internal/bytealg.IndexByteString", "internal/bytealg.IndexString"], unfollowed := true, recurses := true, named := ["internal/bytealg.MaxLen", "unicode/utf8.first", "unicode/utf8.acceptRanges"], apart := false, laid := [("unicode/utf8.acceptRanges", laid_unicode_utf8_acceptRanges), ("unicode/utf8.first", laid_unicode_utf8_first)] }
def BraceListsSaid : Prop := braceListsRow.holds Tryd.pinned (OpenSpec.ofChange braceListsSpec)

/-- ITS FALSE NEIGHBOUR: 'it returns false'. Refute it at one input. -/
def braceListsWrong : ChangeSpec := { name := "braceLists", fn := fun _ => fun
  | [d1, d2, d3] => { results := [.lit (.bool false)], args := [d1, d2, d3] }
  | _ => none }
def BraceListsWrongFalsely : Prop := braceListsRow.holds Tryd.pinned (OpenSpec.ofChange braceListsWrong)

/-- 'cowrielaw17.BraceSpans': WHATEVER THE INPUT: true; the input reads as it did. -/
def braceSpansSpec : ChangeSpec := { name := "braceSpans", fn := fun _ => fun
  | [d1, d2] => { results := [.lit (.bool true)], args := [d1, d2] }
  | _ => none }
def braceSpansRow : OpenClaim := { program := "ytciflnnagkdjiaadoor", sum := "d2314f28e01f763068d2226dfb93afbdb9a8bfc31d7ab81fec46c7504bba4634", func := "cowrie/cowrielaw17.BraceSpans", spec := "braceSpans", inPlace := ["internal/bytealg.IndexByteString", "internal/bytealg.IndexString"], unfollowed := true, recurses := true, named := ["internal/bytealg.MaxLen", "unicode/utf8.first", "unicode/utf8.acceptRanges"], apart := false, laid := [("unicode/utf8.acceptRanges", laid_unicode_utf8_acceptRanges), ("unicode/utf8.first", laid_unicode_utf8_first)] }
def BraceSpansSaid : Prop := braceSpansRow.holds Tryd.pinned (OpenSpec.ofChange braceSpansSpec)

/-- ITS FALSE NEIGHBOUR: 'it returns false'. Refute it at one input. -/
def braceSpansWrong : ChangeSpec := { name := "braceSpans", fn := fun _ => fun
  | [d1, d2] => { results := [.lit (.bool false)], args := [d1, d2] }
  | _ => none }
def BraceSpansWrongFalsely : Prop := braceSpansRow.holds Tryd.pinned (OpenSpec.ofChange braceSpansWrong)

/-- 'cowrielaw17.BraceOnce': WHATEVER THE INPUT: true; the input reads as it did. -/
def braceOnceSpec : ChangeSpec := { name := "braceOnce", fn := fun _ => fun
  | [d1, d2] => { results := [.lit (.bool true)], args := [d1, d2] }
  | _ => none }
def braceOnceRow : OpenClaim := { program := "ytciflnnagkdjiaadoor", sum := "d2314f28e01f763068d2226dfb93afbdb9a8bfc31d7ab81fec46c7504bba4634", func := "cowrie/cowrielaw17.BraceOnce", spec := "braceOnce", inPlace := ["internal/bytealg.IndexByteString", "internal/bytealg.IndexString"], unfollowed := true, recurses := true, named := ["internal/bytealg.MaxLen", "unicode/utf8.first", "unicode/utf8.acceptRanges"], loops := true, apart := false, laid := [("unicode/utf8.acceptRanges", laid_unicode_utf8_acceptRanges), ("unicode/utf8.first", laid_unicode_utf8_first)] }
def BraceOnceSaid : Prop := braceOnceRow.holds Tryd.pinned (OpenSpec.ofChange braceOnceSpec)

/-- ITS FALSE NEIGHBOUR: 'it returns false'. Refute it at one input. -/
def braceOnceWrong : ChangeSpec := { name := "braceOnce", fn := fun _ => fun
  | [d1, d2] => { results := [.lit (.bool false)], args := [d1, d2] }
  | _ => none }
def BraceOnceWrongFalsely : Prop := braceOnceRow.holds Tryd.pinned (OpenSpec.ofChange braceOnceWrong)

/-- 'cowrielaw17.BraceTells': WHATEVER THE INPUT: true; the input reads as it did. -/
def braceTellsSpec : ChangeSpec := { name := "braceTells", fn := fun _ => fun
  | [d] => { results := [.lit (.bool true)], args := [d] }
  | _ => none }
def braceTellsRow : OpenClaim := { program := "ytciflnnagkdjiaadoor", sum := "d2314f28e01f763068d2226dfb93afbdb9a8bfc31d7ab81fec46c7504bba4634", func := "cowrie/cowrielaw17.BraceTells", spec := "braceTells", inPlace := ["internal/bytealg.IndexByteString", "internal/bytealg.IndexString"], unfollowed := true, recurses := true, named := ["internal/bytealg.MaxLen", "unicode/utf8.first", "unicode/utf8.acceptRanges"], loops := true, apart := false, laid := [("unicode/utf8.acceptRanges", laid_unicode_utf8_acceptRanges), ("unicode/utf8.first", laid_unicode_utf8_first)] }
def BraceTellsSaid : Prop := braceTellsRow.holds Tryd.pinned (OpenSpec.ofChange braceTellsSpec)

/-- ITS FALSE NEIGHBOUR: 'it returns false'. Refute it at one input. -/
def braceTellsWrong : ChangeSpec := { name := "braceTells", fn := fun _ => fun
  | [d] => { results := [.lit (.bool false)], args := [d] }
  | _ => none }
def BraceTellsWrongFalsely : Prop := braceTellsRow.holds Tryd.pinned (OpenSpec.ofChange braceTellsWrong)

/- THE SECOND FORM. 'bulk': how many values and letters a reading holds, each counted each time it is reached (what is shared counts as often as it is met; a slice's spare places count too). A statement '..UptoSaid' is the law's where the arguments, and the package variables that the reading takes, are together of bulk at most 1048576: NARROWER than '..Said'. Prove '..Said' where nothing that the law and all that it calls make is longer than what came in: it says more and counts as full. Else prove '..UptoSaid'. A law counts once. -/
mutual
def uptoBulk {H : Type} : DataW H → Nat
  | .lit (.string bytes) => bytes.length + 1
  | .lit _ => 1
  | .nil => 1
  | .ptr d => uptoBulk d + 1
  | .slice elems spare => uptoBulkAll elems + uptoBulkAll spare + 1
  | .agg parts => uptoBulkAll parts + 1
  | .iface _ d => uptoBulk d + 1
  | .map entries => uptoBulkEntries entries + 1
  | .held _ => 1
def uptoBulkAll {H : Type} : List (DataW H) → Nat
  | [] => 0
  | d :: r => uptoBulk d + uptoBulkAll r
def uptoBulkEntries {H : Type} : List (Lit × DataW H) → Nat
  | [] => 0
  | x :: r => uptoBulkEntry x + uptoBulkEntries r
def uptoBulkEntry {H : Type} : Lit × DataW H → Nat
  | (.string bytes, d) => bytes.length + uptoBulk d + 1
  | (_, d) => uptoBulk d + 1
 end
def uptoSmall : (H : Type) → List (DataW H) → Bool := fun _ ds => decide (uptoBulkAll ds ≤ 1048576)
def OpenSpec.upto (s : _root_.Go.ChangeSpec) : _root_.Go.OpenSpec := { _root_.Go.OpenSpec.ofChange s with cond := some uptoSmall }

/-- 'cowrielaw17.BraceQuoted', WHERE WHAT IT READS IS OF BULK AT MOST 1048576: true; the input reads as it did. -/
def braceQuotedUptoRow : OpenClaim := { program := "ytciflnnagkdjiaadoor", sum := "d2314f28e01f763068d2226dfb93afbdb9a8bfc31d7ab81fec46c7504bba4634", func := "cowrie/cowrielaw17.BraceQuoted", spec := "braceQuoted", inPlace := ["internal/bytealg.IndexByteString", "internal/bytealg.IndexString"], unfollowed := true, recurses := true, named := ["internal/bytealg.MaxLen", "unicode/utf8.first", "unicode/utf8.acceptRanges"], apart := false, laid := [("unicode/utf8.acceptRanges", laid_unicode_utf8_acceptRanges), ("unicode/utf8.first", laid_unicode_utf8_first)], narrowed := true }
def BraceQuotedUptoSaid : Prop := braceQuotedUptoRow.holds Tryd.pinned (OpenSpec.upto braceQuotedSpec)

/-- 'cowrielaw17.BraceLists', WHERE WHAT IT READS IS OF BULK AT MOST 1048576: true; the input reads as it did. -/
def braceListsUptoRow : OpenClaim := { program := "ytciflnnagkdjiaadoor", sum := "d2314f28e01f763068d2226dfb93afbdb9a8bfc31d7ab81fec46c7504bba4634", func := "cowrie/cowrielaw17.BraceLists", spec := "braceLists", inPlace := ["internal/bytealg.IndexByteString", "internal/bytealg.IndexString"], unfollowed := true, recurses := true, named := ["internal/bytealg.MaxLen", "unicode/utf8.first", "unicode/utf8.acceptRanges"], apart := false, laid := [("unicode/utf8.acceptRanges", laid_unicode_utf8_acceptRanges), ("unicode/utf8.first", laid_unicode_utf8_first)], narrowed := true }
def BraceListsUptoSaid : Prop := braceListsUptoRow.holds Tryd.pinned (OpenSpec.upto braceListsSpec)

/-- 'cowrielaw17.BraceSpans', WHERE WHAT IT READS IS OF BULK AT MOST 1048576: true; the input reads as it did. -/
def braceSpansUptoRow : OpenClaim := { program := "ytciflnnagkdjiaadoor", sum := "d2314f28e01f763068d2226dfb93afbdb9a8bfc31d7ab81fec46c7504bba4634", func := "cowrie/cowrielaw17.BraceSpans", spec := "braceSpans", inPlace := ["internal/bytealg.IndexByteString", "internal/bytealg.IndexString"], unfollowed := true, recurses := true, named := ["internal/bytealg.MaxLen", "unicode/utf8.first", "unicode/utf8.acceptRanges"], apart := false, laid := [("unicode/utf8.acceptRanges", laid_unicode_utf8_acceptRanges), ("unicode/utf8.first", laid_unicode_utf8_first)], narrowed := true }
def BraceSpansUptoSaid : Prop := braceSpansUptoRow.holds Tryd.pinned (OpenSpec.upto braceSpansSpec)

/-- 'cowrielaw17.BraceOnce', WHERE WHAT IT READS IS OF BULK AT MOST 1048576: true; the input reads as it did. -/
def braceOnceUptoRow : OpenClaim := { program := "ytciflnnagkdjiaadoor", sum := "d2314f28e01f763068d2226dfb93afbdb9a8bfc31d7ab81fec46c7504bba4634", func := "cowrie/cowrielaw17.BraceOnce", spec := "braceOnce", inPlace := ["internal/bytealg.IndexByteString", "internal/bytealg.IndexString"], unfollowed := true, recurses := true, named := ["internal/bytealg.MaxLen", "unicode/utf8.first", "unicode/utf8.acceptRanges"], loops := true, apart := false, laid := [("unicode/utf8.acceptRanges", laid_unicode_utf8_acceptRanges), ("unicode/utf8.first", laid_unicode_utf8_first)], narrowed := true }
def BraceOnceUptoSaid : Prop := braceOnceUptoRow.holds Tryd.pinned (OpenSpec.upto braceOnceSpec)

/-- 'cowrielaw17.BraceTells', WHERE WHAT IT READS IS OF BULK AT MOST 1048576: true; the input reads as it did. -/
def braceTellsUptoRow : OpenClaim := { program := "ytciflnnagkdjiaadoor", sum := "d2314f28e01f763068d2226dfb93afbdb9a8bfc31d7ab81fec46c7504bba4634", func := "cowrie/cowrielaw17.BraceTells", spec := "braceTells", inPlace := ["internal/bytealg.IndexByteString", "internal/bytealg.IndexString"], unfollowed := true, recurses := true, named := ["internal/bytealg.MaxLen", "unicode/utf8.first", "unicode/utf8.acceptRanges"], loops := true, apart := false, laid := [("unicode/utf8.acceptRanges", laid_unicode_utf8_acceptRanges), ("unicode/utf8.first", laid_unicode_utf8_first)], narrowed := true }
def BraceTellsUptoSaid : Prop := braceTellsUptoRow.holds Tryd.pinned (OpenSpec.upto braceTellsSpec)

end Rows
end Go.Proofs.YtciflnnagkdjiaaDoor

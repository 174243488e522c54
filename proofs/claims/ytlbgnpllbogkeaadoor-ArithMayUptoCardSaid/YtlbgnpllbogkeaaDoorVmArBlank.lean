/- Proved: blanks ahead of a text change nothing but places (arith's parser, in plain Lean). No program's step. -/
import Derived.Test.YtlbgnpllbogkeaaDoorVmArTok
import Derived.Test.YtlbgnpllbogkeaaDoorVmArPure
import Derived.Test.YtlbgnpllbogkeaaDoorVmArParse
set_option linter.unusedVariables false
set_option linter.unusedSimpArgs false
namespace Go.Proofs.YtlbgnpllbogkeaaDoor.Ext
open Go.RowKit Go.Proofs.YtlbgnpllbogkeaaDoorW.PrintWords
theorem ba_eq {a b : ByteArray} (h : a.data.toList = b.data.toList) : a = b := ByteArray.ext (Array.ext' h)
/-- The token, from where the blanks end. -/
def nextAt (s : ByteArray) (bash : Bool) (a : Nat) : Tok :=
  if a = s.size then ⟨0, em, a, a⟩
  else if nameOf (wordF (restF s a)) = true then ⟨2, wordF (restF s a), a, s.size - (restF s a).size + (wordF (restF s a)).size⟩
  else if (!dollarB s a && (litOf (wordF (restF s a))).2 == 0) = true then ⟨1, wordF (restF s a), a, s.size - (restF s a).size + (wordF (restF s a)).size⟩
  else if (dollarB s a || !((wordF (restF s a)).size == 0)) = true then ⟨4, wordF (restF s a), a, s.size - (restF s a).size + (wordF (restF s a)).size⟩
  else signGo s bash a signsL
theorem nextF_at (s : ByteArray) (bash : Bool) (i : Nat) : nextF s bash i = nextAt s bash (skipF s i) := rfl
section
variable {b s : ByteArray} {n : Nat}
end
end Go.Proofs.YtlbgnpllbogkeaaDoor.Ext

-- Written by programs of the kit and of this session.
import Derived.Test.YtlbgnpllbogkeaaDoorVkWLast
import Derived.Test.YtlbgnpllbogkeaaDoorVkWWords
namespace Go.Proofs.YtlbgnpllbogkeaaDoorW.PrintLast
/-- Number i is listed too. -/
def up (b : Nat → Bool) (i : Nat) : Nat → Bool := fun j => if j = i then true else b j
section
variable {P : Program} {ops : Array Oper} {Q : Exit → Act → World → Prop} {md : Region.Mode} {T : Bool × List (List Nat × List Nat)} {B : List Nat} {O : List Nat} {b : Nat → Bool} {i j n : Nat}
end
end Go.Proofs.YtlbgnpllbogkeaaDoorW.PrintLast

/- The print's words Inv, of which only what this seat's claims may name is left (wip/trimW.py). -/
import Derived.Test.YtpmgfmalpijjbaaDoorWTab
namespace Go.Proofs.YtpmgfmalpijjbaaDoorW.PrintLast
section
variable {P : Program} {ops : Array Oper} {Q : Exit → Act → World → Prop} {md : Region.Mode} {T : Bool × List (List Nat × List Nat)} {B : List Nat} {O : List Nat} {b : Nat → Bool} {i j n : Nat}
end
end Go.Proofs.YtpmgfmalpijjbaaDoorW.PrintLast

/- The print's words InvWords, of which only what this seat's claims may name is left (wip/trimW.py). -/
import Derived.Test.YtpmgfmalpijjbaaDoorWInv
import Derived.Test.YtpmgfmalpijjbaaDoorWFootNe
namespace Go.Proofs.YtpmgfmalpijjbaaDoorW.PrintWords
open Go.RowKit
end Go.Proofs.YtpmgfmalpijjbaaDoorW.PrintWords
namespace Go.Proofs.YtpmgfmalpijjbaaDoorW.PrintLast
section
variable {ops : Array Oper} {a : Act} {o og : Oper} {g : Nat} {t : Tmp} {u : Bool}
end
end Go.Proofs.YtpmgfmalpijjbaaDoorW.PrintLast

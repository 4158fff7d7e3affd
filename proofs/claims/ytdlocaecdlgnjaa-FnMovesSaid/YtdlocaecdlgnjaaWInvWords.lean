/- The print's words InvWords, of which only what this seat's claims may name is left (wip/trimW.py). -/
import Derived.Test.YtdlocaecdlgnjaaWInv
import Derived.Test.YtdlocaecdlgnjaaWFootNe
namespace Go.Proofs.YtdlocaecdlgnjaaW.PrintWords
open Go.RowKit
end Go.Proofs.YtdlocaecdlgnjaaW.PrintWords
namespace Go.Proofs.YtdlocaecdlgnjaaW.PrintLast
section
variable {ops : Array Oper} {a : Act} {o og : Oper} {g : Nat} {t : Tmp} {u : Bool}
end
end Go.Proofs.YtdlocaecdlgnjaaW.PrintLast

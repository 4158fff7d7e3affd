/- The print's words Guard, of which only what this seat's claims may name is left (wip/trimW.py). -/
import Derived.Test.YtdlocaecdlgnjaaWWords
namespace Go.Proofs.YtdlocaecdlgnjaaW.PrintWords
open Go.RowKit
section
variable {P : Program} {ops : Array Oper} {rest : List Oper} {o : Oper} {a : Act} {Q : Exit → Act → World → Prop} {W : World}
end
end Go.Proofs.YtdlocaecdlgnjaaW.PrintWords

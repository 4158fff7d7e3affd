/- The walks of FnMoves, part 0: what the print wrote, with some proofs of the session's own. -/
import Derived.Test.YtdlocaecdlgnjaaName
import Derived.Test.YtdlocaecdlgnjaaProg
import Derived.Below
import Derived.Deep.Draws
import Derived.Deep.AppendLies
import Derived.Maps.AppendAt
import Derived.OwnWalk
import Derived.Laws.BytesArg
import Derived.Laws.MakeOwn
import Derived.Laws.OwnMore
import Derived.Deep.OwnRows
import Derived.Tactics
import Derived.Lib.ConvBytes
import Derived.Laws.Slices
import Derived.WalkKit
import Derived.KernelRfl
import Derived.RowKit3
import Derived.Deep.LoopGhost
import Derived.Deep.QuietTactic
import Derived.BigQuiet
import Derived.WideLaws
import Derived.Deep.DeepCutAuto
import Derived.Deep.CutBlock
import Derived.Deep.RegionHeld3
import Derived.Laws.Rows
import Derived.Lib.AppendStr
import Derived.ArgAppend
import Derived.Laws.IdiomCopy
import Derived.OrdersHeld
import Derived.Laws.BitsLemmas
import Derived.RowKit
import Derived.LoopN
import Derived.Lib.SliceRun
import Derived.Lib.Bytealg
import Derived.Laws.Externs
import Derived.Test.YtdlocaecdlgnjaaName
import Derived.Test.YtdlocaecdlgnjaaMake
import Derived.Test.YtdlocaecdlgnjaaWWords
import Derived.Test.YtdlocaecdlgnjaaWLast
import Derived.Test.YtdlocaecdlgnjaaWTab
import Derived.Test.YtdlocaecdlgnjaaWFour
import Derived.Test.YtdlocaecdlgnjaaWQPut
import Derived.Test.YtdlocaecdlgnjaaWApart
import Derived.Test.YtdlocaecdlgnjaaWArr
import Derived.Test.YtdlocaecdlgnjaaWZeros
import Derived.Test.YtdlocaecdlgnjaaWFoot
import Derived.Test.YtdlocaecdlgnjaaWKept
import Derived.Test.YtdlocaecdlgnjaaWShare
import Derived.Test.YtdlocaecdlgnjaaWN
import Derived.Test.YtdlocaecdlgnjaaWFootNe
import Derived.Test.YtdlocaecdlgnjaaWAt
import Derived.Test.YtdlocaecdlgnjaaWEqStruct
import Derived.Test.YtdlocaecdlgnjaaWRepsOne
import Derived.Test.YtdlocaecdlgnjaaWInv
import Derived.Test.YtdlocaecdlgnjaaWInvWords
import Derived.Test.YtdlocaecdlgnjaaWGuard
import Derived.Test.YtdlocaecdlgnjaaWNEv
import Derived.Test.YtdlocaecdlgnjaaWMore
namespace Go.Proofs.Ytdlocaecdlgnjaa.PFnMoves
open Go.RowKit Go.Proofs.YtdlocaecdlgnjaaW.PrintWords Go.Proofs.YtdlocaecdlgnjaaW.PrintLast Go.Proofs.YtdlocaecdlgnjaaW.PrintMore
attribute [local go_sem] max2_int min2_int max_two min_two max_three min_three max_four min_four   -- for this text's walks alone
set_option linter.unusedVariables false
set_option linter.unusedSimpArgs false



def errW : Option Int → Value
  | none => .nilIface
  | some c => .iface 0 (.int .i64 c)
theorem errW_none : errW none = .nilIface := rfl
theorem errW_some (c : Int) : errW (some c) = .iface 0 (.int .i64 c) := rfl

-- the values' own types

end Go.Proofs.Ytdlocaecdlgnjaa.PFnMoves

/- The walks of FnExactCompose, part 0: what the print wrote, with some proofs of the session's own. -/
import Derived.Test.YtjipfhcekjmjkaaName
import Derived.Test.YtjipfhcekjmjkaaProg
import Derived.Below
import Derived.Deep.Draws
import Derived.Deep.AppendLies
import Derived.Maps.AppendAt
import Derived.OwnWalk
import Derived.Laws.BytesArg
import Derived.Laws.MakeOwn
import Derived.Laws.OwnMore
import Derived.Deep.OwnRows
import Derived.Tactics
import Derived.Lib.ConvBytes
import Derived.Laws.Slices
import Derived.WalkKit
import Derived.KernelRfl
import Derived.RowKit3
import Derived.Deep.LoopGhost
import Derived.Deep.QuietTactic
import Derived.BigQuiet
import Derived.WideLaws
import Derived.Deep.DeepCutAuto
import Derived.Deep.CutBlock
import Derived.Deep.RegionHeld3
import Derived.Laws.Rows
import Derived.Lib.AppendStr
import Derived.ArgAppend
import Derived.Laws.IdiomCopy
import Derived.OrdersHeld
import Derived.Laws.BitsLemmas
import Derived.RowKit
import Derived.LoopN
import Derived.Test.YtjipfhcekjmjkaaName
import Derived.Test.YtjipfhcekjmjkaaWWords
import Derived.Test.YtjipfhcekjmjkaaWLast
import Derived.Test.YtjipfhcekjmjkaaWTab
import Derived.Test.YtjipfhcekjmjkaaWFour
import Derived.Test.YtjipfhcekjmjkaaWQPut
import Derived.Test.YtjipfhcekjmjkaaWApart
import Derived.Test.YtjipfhcekjmjkaaWArr
import Derived.Test.YtjipfhcekjmjkaaWZeros
import Derived.Test.YtjipfhcekjmjkaaWFoot
import Derived.Test.YtjipfhcekjmjkaaWKept
import Derived.Test.YtjipfhcekjmjkaaWShare
import Derived.Test.YtjipfhcekjmjkaaWN
import Derived.Test.YtjipfhcekjmjkaaWFootNe
import Derived.Test.YtjipfhcekjmjkaaWAt
import Derived.Test.YtjipfhcekjmjkaaWEqStruct
import Derived.Test.YtjipfhcekjmjkaaWRepsOne
import Derived.Test.YtjipfhcekjmjkaaWInv
import Derived.Test.YtjipfhcekjmjkaaWInvWords
import Derived.Test.YtjipfhcekjmjkaaWGuard
import Derived.Test.YtjipfhcekjmjkaaWNEv
import Derived.Test.YtjipfhcekjmjkaaWMore
namespace Go.Proofs.Ytjipfhcekjmjkaa.PFnExactCompose
open Go.RowKit Go.Proofs.YtjipfhcekjmjkaaW.PrintWords Go.Proofs.YtjipfhcekjmjkaaW.PrintLast Go.Proofs.YtjipfhcekjmjkaaW.PrintMore
attribute [local go_sem] max2_int min2_int max_two min_two max_three min_three max_four min_four   -- for this text's walks alone
set_option linter.unusedVariables false
set_option linter.unusedSimpArgs false



def errW : Option Int → Value
  | none => .nilIface
  | some c => .iface 0 (.int .i64 c)
theorem errW_none : errW none = .nilIface := rfl
theorem errW_some (c : Int) : errW (some c) = .iface 0 (.int .i64 c) := rfl

-- the values' own types

end Go.Proofs.Ytjipfhcekjmjkaa.PFnExactCompose

/- The walks of FnNumbers, part 0: what the print wrote, with some proofs of the session's own. -/
import Derived.Test.YtekoemmlkdancaaDoorName
import Derived.Test.YtekoemmlkdancaaDoorProg
import Derived.Below
import Derived.Deep.Draws
import Derived.Deep.AppendLies
import Derived.Maps.AppendAt
import Derived.OwnWalk
import Derived.Laws.BytesArg
import Derived.Laws.MakeOwn
import Derived.Laws.OwnMore
import Derived.Deep.OwnRows
import Derived.Tactics
import Derived.Lib.ConvBytes
import Derived.Laws.Slices
import Derived.WalkKit
import Derived.KernelRfl
import Derived.RowKit3
import Derived.Deep.LoopGhost
import Derived.Deep.QuietTactic
import Derived.BigQuiet
import Derived.WideLaws
import Derived.Deep.DeepCutAuto
import Derived.Deep.CutBlock
import Derived.Deep.RegionHeld3
import Derived.Laws.Rows
import Derived.Lib.AppendStr
import Derived.ArgAppend
import Derived.Laws.IdiomCopy
import Derived.OrdersHeld
import Derived.Laws.BitsLemmas
import Derived.RowKit
import Derived.LoopN
import Derived.Lib.SliceRun
import Derived.Lib.Bytealg
import Derived.Laws.Externs
import Derived.Test.YtekoemmlkdancaaDoorName
import Derived.Test.YtekoemmlkdancaaDoorMake
import Derived.Test.YtekoemmlkdancaaDoorConv
import Derived.Test.YtekoemmlkdancaaDoorTab
import Derived.Test.YtekoemmlkdancaaDoorWWords
import Derived.Test.YtekoemmlkdancaaDoorWLast
import Derived.Test.YtekoemmlkdancaaDoorWTab
import Derived.Test.YtekoemmlkdancaaDoorWFour
import Derived.Test.YtekoemmlkdancaaDoorWQPut
import Derived.Test.YtekoemmlkdancaaDoorWApart
import Derived.Test.YtekoemmlkdancaaDoorWArr
import Derived.Test.YtekoemmlkdancaaDoorWZeros
import Derived.Test.YtekoemmlkdancaaDoorWFoot
import Derived.Test.YtekoemmlkdancaaDoorWKept
import Derived.Test.YtekoemmlkdancaaDoorWShare
import Derived.Test.YtekoemmlkdancaaDoorWN
import Derived.Test.YtekoemmlkdancaaDoorWFootNe
import Derived.Test.YtekoemmlkdancaaDoorWAt
import Derived.Test.YtekoemmlkdancaaDoorWEqStruct
import Derived.Test.YtekoemmlkdancaaDoorWRepsOne
import Derived.Test.YtekoemmlkdancaaDoorWInv
import Derived.Test.YtekoemmlkdancaaDoorWInvWords
import Derived.Test.YtekoemmlkdancaaDoorWGuard
import Derived.Test.YtekoemmlkdancaaDoorWNEv
import Derived.Test.YtekoemmlkdancaaDoorWMore
namespace Go.Proofs.YtekoemmlkdancaaDoor.PFnNumbers
open Go.RowKit Go.Proofs.YtekoemmlkdancaaDoorW.PrintWords Go.Proofs.YtekoemmlkdancaaDoorW.PrintLast Go.Proofs.YtekoemmlkdancaaDoorW.PrintMore
attribute [local go_sem] max2_int min2_int max_two min_two max_three min_three max_four min_four   -- for this text's walks alone
set_option linter.unusedVariables false
set_option linter.unusedSimpArgs false



def errW : Option Int → Value
  | none => .nilIface
  | some c => .iface 0 (.int .i64 c)
theorem errW_none : errW none = .nilIface := rfl
theorem errW_some (c : Int) : errW (some c) = .iface 0 (.int .i64 c) := rfl

theorem info3 : (Tryd.prog.info? 3).map (fun i => (i.zero, i.size, i.bytes)) = some (some (.int .i64 0), 1, 8) := by kernel_rfl
theorem info5 : (Tryd.prog.info? 5).map (fun i => (i.zero, i.size, i.bytes)) = some (some (.int .u8 0), 1, 1) := by kernel_rfl
-- the values' own types

end Go.Proofs.YtekoemmlkdancaaDoor.PFnNumbers

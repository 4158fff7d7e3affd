/- The walks of FnExactPartsOf, part 0: what the print wrote, with some proofs of the session's own. -/
import Derived.Test.YtpmgfmalpijjbaaDoorName
import Derived.Test.YtpmgfmalpijjbaaDoorProg
import Derived.Below
import Derived.Deep.Draws
import Derived.Deep.AppendLies
import Derived.Maps.AppendAt
import Derived.OwnWalk
import Derived.Laws.BytesArg
import Derived.Laws.MakeOwn
import Derived.Laws.OwnMore
import Derived.Deep.OwnRows
import Derived.Tactics
import Derived.Lib.ConvBytes
import Derived.Laws.Slices
import Derived.WalkKit
import Derived.KernelRfl
import Derived.RowKit3
import Derived.Deep.LoopGhost
import Derived.Deep.QuietTactic
import Derived.BigQuiet
import Derived.WideLaws
import Derived.Deep.DeepCutAuto
import Derived.Deep.CutBlock
import Derived.Deep.RegionHeld3
import Derived.Laws.Rows
import Derived.Lib.AppendStr
import Derived.ArgAppend
import Derived.Laws.IdiomCopy
import Derived.OrdersHeld
import Derived.Laws.BitsLemmas
import Derived.RowKit
import Derived.LoopN
import Derived.Lib.SliceRun
import Derived.Lib.Bytealg
import Derived.Laws.Externs
import Derived.Test.YtpmgfmalpijjbaaDoorName
import Derived.Test.YtpmgfmalpijjbaaDoorMake
import Derived.Test.YtpmgfmalpijjbaaDoorConv
import Derived.Test.YtpmgfmalpijjbaaDoorTab
import Derived.Test.YtpmgfmalpijjbaaDoorWWords
import Derived.Test.YtpmgfmalpijjbaaDoorWLast
import Derived.Test.YtpmgfmalpijjbaaDoorWTab
import Derived.Test.YtpmgfmalpijjbaaDoorWFour
import Derived.Test.YtpmgfmalpijjbaaDoorWQPut
import Derived.Test.YtpmgfmalpijjbaaDoorWApart
import Derived.Test.YtpmgfmalpijjbaaDoorWArr
import Derived.Test.YtpmgfmalpijjbaaDoorWZeros
import Derived.Test.YtpmgfmalpijjbaaDoorWFoot
import Derived.Test.YtpmgfmalpijjbaaDoorWKept
import Derived.Test.YtpmgfmalpijjbaaDoorWShare
import Derived.Test.YtpmgfmalpijjbaaDoorWN
import Derived.Test.YtpmgfmalpijjbaaDoorWFootNe
import Derived.Test.YtpmgfmalpijjbaaDoorWAt
import Derived.Test.YtpmgfmalpijjbaaDoorWEqStruct
import Derived.Test.YtpmgfmalpijjbaaDoorWRepsOne
import Derived.Test.YtpmgfmalpijjbaaDoorWInv
import Derived.Test.YtpmgfmalpijjbaaDoorWInvWords
import Derived.Test.YtpmgfmalpijjbaaDoorWGuard
import Derived.Test.YtpmgfmalpijjbaaDoorWNEv
import Derived.Test.YtpmgfmalpijjbaaDoorWMore
namespace Go.Proofs.YtpmgfmalpijjbaaDoor.PFnExactPartsOf
open Go.RowKit Go.Proofs.YtpmgfmalpijjbaaDoorW.PrintWords Go.Proofs.YtpmgfmalpijjbaaDoorW.PrintLast Go.Proofs.YtpmgfmalpijjbaaDoorW.PrintMore
attribute [local go_sem] max2_int min2_int max_two min_two max_three min_three max_four min_four   -- for this text's walks alone
set_option linter.unusedVariables false
set_option linter.unusedSimpArgs false



def errW : Option Int → Value
  | none => .nilIface
  | some c => .iface 0 (.int .i64 c)
theorem errW_none : errW none = .nilIface := rfl
theorem errW_some (c : Int) : errW (some c) = .iface 0 (.int .i64 c) := rfl

theorem info5 : (Tryd.prog.info? 5).map (fun i => (i.zero, i.size, i.bytes)) = some (some (.int .u8 0), 1, 1) := by kernel_rfl
theorem info9 : (Tryd.prog.info? 9).map (fun i => (i.zero, i.size, i.bytes)) = some (some (.string ⟨#[]⟩), 1, 16) := by kernel_rfl
-- the values' own types

end Go.Proofs.YtpmgfmalpijjbaaDoor.PFnExactPartsOf

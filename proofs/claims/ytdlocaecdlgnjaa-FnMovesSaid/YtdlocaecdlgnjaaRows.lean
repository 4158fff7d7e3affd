/-
  No cell of these rows narrows 'for every input' (looked for: loops, veiled, ifaces, maps, wideKeys, modest, calm, conditions, laid).
  DERIVED. THE GIVEN ROWS OF THIS SEAT. 11 by the template 'for every input the law returns true; each argument reads behind the call as it read before'; 0 by the template 'total and deterministic' (their statements: YtdlocaecdlgnjaaTotals.lean).
  GIVEN WITH THE SEED: the statements are not yours to turn. If you find one false, say at which input.
  Laid BY PROGRAM, IN A SANDBOX (cutbox-rows.mjs): the forced cells as the released guide's own fill.sh prints them over the translation 3714e10810d4d4ad… (all of the seat's roots in one cut). By AI agents, Wed Nov 11 2026. No macro, syntax, notation, axiom, sorry.
-/
import Derived.Test.YtdlocaecdlgnjaaChecked
import GoSem.Claim
import GoSem.ClaimJoined
import GoSem.ClaimMapViews
import Derived.JoinedTies
import Derived.KernelRfl
namespace Go.Proofs.Ytdlocaecdlgnjaa
/- THE CELL 'sum', in the pinned program and in every row, IS THE sha256 OF THE DUMP (.gsa) THAT YtdlocaecdlgnjaaProg.lean LOADS. Nothing in Lean hashes anything: it is a label: what it is worth is what the hold of that sum in a sandbox is worth. -/
noncomputable def Try.pinned : Pinned := { name := "ytdlocaecdlgnjaa", sum := "3714e10810d4d4add779d9e5a56b5d252b57c47c2630f34997b262fab27df4ea", checked := Try.checked }
namespace Rows
def none {H : Type} : Left H := { results := [], args := [] }

/-- 'laws.FnExactQuadAt': WHATEVER THE INPUT: true; the input reads as it did. -/
def fnExactQuadAtSpec : ChangeSpec := { name := "fnExactQuadAt", fn := fun _ => fun
  | [d1, d2, d3, d4] => { results := [.lit (.bool true)], args := [d1, d2, d3, d4] }
  | _ => none }
def fnExactQuadAtRow : OpenClaim := { program := "ytdlocaecdlgnjaa", sum := "3714e10810d4d4add779d9e5a56b5d252b57c47c2630f34997b262fab27df4ea", func := "loop.example/g00190/laws.FnExactQuadAt", spec := "fnExactQuadAt", apart := false }
def FnExactQuadAtSaid : Prop := fnExactQuadAtRow.holds Try.pinned (OpenSpec.ofChange fnExactQuadAtSpec)

/-- ITS FALSE NEIGHBOUR: 'it returns false'. Refute it at one input. -/
def fnExactQuadAtWrong : ChangeSpec := { name := "fnExactQuadAt", fn := fun _ => fun
  | [d1, d2, d3, d4] => { results := [.lit (.bool false)], args := [d1, d2, d3, d4] }
  | _ => none }
def FnExactQuadAtWrongFalsely : Prop := fnExactQuadAtRow.holds Try.pinned (OpenSpec.ofChange fnExactQuadAtWrong)

/-- 'laws.FnExactCubicAt': WHATEVER THE INPUT: true; the input reads as it did. -/
def fnExactCubicAtSpec : ChangeSpec := { name := "fnExactCubicAt", fn := fun _ => fun
  | [d1, d2, d3, d4, d5] => { results := [.lit (.bool true)], args := [d1, d2, d3, d4, d5] }
  | _ => none }
def fnExactCubicAtRow : OpenClaim := { program := "ytdlocaecdlgnjaa", sum := "3714e10810d4d4add779d9e5a56b5d252b57c47c2630f34997b262fab27df4ea", func := "loop.example/g00190/laws.FnExactCubicAt", spec := "fnExactCubicAt", apart := false }
def FnExactCubicAtSaid : Prop := fnExactCubicAtRow.holds Try.pinned (OpenSpec.ofChange fnExactCubicAtSpec)

/-- ITS FALSE NEIGHBOUR: 'it returns false'. Refute it at one input. -/
def fnExactCubicAtWrong : ChangeSpec := { name := "fnExactCubicAt", fn := fun _ => fun
  | [d1, d2, d3, d4, d5] => { results := [.lit (.bool false)], args := [d1, d2, d3, d4, d5] }
  | _ => none }
def FnExactCubicAtWrongFalsely : Prop := fnExactCubicAtRow.holds Try.pinned (OpenSpec.ofChange fnExactCubicAtWrong)

/-- 'laws.FnExactApply': WHATEVER THE INPUT: true; the input reads as it did. -/
def fnExactApplySpec : ChangeSpec := { name := "fnExactApply", fn := fun _ => fun
  | [d1, d2] => { results := [.lit (.bool true)], args := [d1, d2] }
  | _ => none }
def fnExactApplyRow : OpenClaim := { program := "ytdlocaecdlgnjaa", sum := "3714e10810d4d4add779d9e5a56b5d252b57c47c2630f34997b262fab27df4ea", func := "loop.example/g00190/laws.FnExactApply", spec := "fnExactApply", apart := false }
def FnExactApplySaid : Prop := fnExactApplyRow.holds Try.pinned (OpenSpec.ofChange fnExactApplySpec)

/-- ITS FALSE NEIGHBOUR: 'it returns false'. Refute it at one input. -/
def fnExactApplyWrong : ChangeSpec := { name := "fnExactApply", fn := fun _ => fun
  | [d1, d2] => { results := [.lit (.bool false)], args := [d1, d2] }
  | _ => none }
def FnExactApplyWrongFalsely : Prop := fnExactApplyRow.holds Try.pinned (OpenSpec.ofChange fnExactApplyWrong)

/-- 'laws.FnExactBoxOf': WHATEVER THE INPUT: true; the input reads as it did. -/
def fnExactBoxOfSpec : ChangeSpec := { name := "fnExactBoxOf", fn := fun _ => fun
  | [d] => { results := [.lit (.bool true)], args := [d] }
  | _ => none }
def fnExactBoxOfRow : OpenClaim := { program := "ytdlocaecdlgnjaa", sum := "3714e10810d4d4add779d9e5a56b5d252b57c47c2630f34997b262fab27df4ea", func := "loop.example/g00190/laws.FnExactBoxOf", spec := "fnExactBoxOf", apart := false }
def FnExactBoxOfSaid : Prop := fnExactBoxOfRow.holds Try.pinned (OpenSpec.ofChange fnExactBoxOfSpec)

/-- ITS FALSE NEIGHBOUR: 'it returns false'. Refute it at one input. -/
def fnExactBoxOfWrong : ChangeSpec := { name := "fnExactBoxOf", fn := fun _ => fun
  | [d] => { results := [.lit (.bool false)], args := [d] }
  | _ => none }
def FnExactBoxOfWrongFalsely : Prop := fnExactBoxOfRow.holds Try.pinned (OpenSpec.ofChange fnExactBoxOfWrong)

/-- 'laws.FnExactRectPath': WHATEVER THE INPUT: true; the input reads as it did. -/
def fnExactRectPathSpec : ChangeSpec := { name := "fnExactRectPath", fn := fun _ => fun
  | [d] => { results := [.lit (.bool true)], args := [d] }
  | _ => none }
def fnExactRectPathRow : OpenClaim := { program := "ytdlocaecdlgnjaa", sum := "3714e10810d4d4add779d9e5a56b5d252b57c47c2630f34997b262fab27df4ea", func := "loop.example/g00190/laws.FnExactRectPath", spec := "fnExactRectPath", apart := false }
def FnExactRectPathSaid : Prop := fnExactRectPathRow.holds Try.pinned (OpenSpec.ofChange fnExactRectPathSpec)

/-- ITS FALSE NEIGHBOUR: 'it returns false'. Refute it at one input. -/
def fnExactRectPathWrong : ChangeSpec := { name := "fnExactRectPath", fn := fun _ => fun
  | [d] => { results := [.lit (.bool false)], args := [d] }
  | _ => none }
def FnExactRectPathWrongFalsely : Prop := fnExactRectPathRow.holds Try.pinned (OpenSpec.ofChange fnExactRectPathWrong)

/-- 'laws.FnPointBoxes': WHATEVER THE INPUT: true; the input reads as it did. -/
def fnPointBoxesSpec : ChangeSpec := { name := "fnPointBoxes", fn := fun _ => fun
  | [d] => { results := [.lit (.bool true)], args := [d] }
  | _ => none }
def fnPointBoxesRow : OpenClaim := { program := "ytdlocaecdlgnjaa", sum := "3714e10810d4d4add779d9e5a56b5d252b57c47c2630f34997b262fab27df4ea", func := "loop.example/g00190/laws.FnPointBoxes", spec := "fnPointBoxes", apart := false }
def FnPointBoxesSaid : Prop := fnPointBoxesRow.holds Try.pinned (OpenSpec.ofChange fnPointBoxesSpec)

/-- ITS FALSE NEIGHBOUR: 'it returns false'. Refute it at one input. -/
def fnPointBoxesWrong : ChangeSpec := { name := "fnPointBoxes", fn := fun _ => fun
  | [d] => { results := [.lit (.bool false)], args := [d] }
  | _ => none }
def FnPointBoxesWrongFalsely : Prop := fnPointBoxesRow.holds Try.pinned (OpenSpec.ofChange fnPointBoxesWrong)

/-- 'laws.FnExactPathOk': WHATEVER THE INPUT: true; the input reads as it did. -/
def fnExactPathOkSpec : ChangeSpec := { name := "fnExactPathOk", fn := fun _ => fun
  | [d] => { results := [.lit (.bool true)], args := [d] }
  | _ => none }
def fnExactPathOkRow : OpenClaim := { program := "ytdlocaecdlgnjaa", sum := "3714e10810d4d4add779d9e5a56b5d252b57c47c2630f34997b262fab27df4ea", func := "loop.example/g00190/laws.FnExactPathOk", spec := "fnExactPathOk", apart := false }
def FnExactPathOkSaid : Prop := fnExactPathOkRow.holds Try.pinned (OpenSpec.ofChange fnExactPathOkSpec)

/-- ITS FALSE NEIGHBOUR: 'it returns false'. Refute it at one input. -/
def fnExactPathOkWrong : ChangeSpec := { name := "fnExactPathOk", fn := fun _ => fun
  | [d] => { results := [.lit (.bool false)], args := [d] }
  | _ => none }
def FnExactPathOkWrongFalsely : Prop := fnExactPathOkRow.holds Try.pinned (OpenSpec.ofChange fnExactPathOkWrong)

/-- 'laws.FnMoves': WHATEVER THE INPUT: true; the input reads as it did. -/
def fnMovesSpec : ChangeSpec := { name := "fnMoves", fn := fun _ => fun
  | [d] => { results := [.lit (.bool true)], args := [d] }
  | _ => none }
def fnMovesRow : OpenClaim := { program := "ytdlocaecdlgnjaa", sum := "3714e10810d4d4add779d9e5a56b5d252b57c47c2630f34997b262fab27df4ea", func := "loop.example/g00190/laws.FnMoves", spec := "fnMoves", apart := false }
def FnMovesSaid : Prop := fnMovesRow.holds Try.pinned (OpenSpec.ofChange fnMovesSpec)

/-- ITS FALSE NEIGHBOUR: 'it returns false'. Refute it at one input. -/
def fnMovesWrong : ChangeSpec := { name := "fnMoves", fn := fun _ => fun
  | [d] => { results := [.lit (.bool false)], args := [d] }
  | _ => none }
def FnMovesWrongFalsely : Prop := fnMovesRow.holds Try.pinned (OpenSpec.ofChange fnMovesWrong)

/-- 'laws.FnExactHull': WHATEVER THE INPUT: true; the input reads as it did. -/
def fnExactHullSpec : ChangeSpec := { name := "fnExactHull", fn := fun _ => fun
  | [d] => { results := [.lit (.bool true)], args := [d] }
  | _ => none }
def fnExactHullRow : OpenClaim := { program := "ytdlocaecdlgnjaa", sum := "3714e10810d4d4add779d9e5a56b5d252b57c47c2630f34997b262fab27df4ea", func := "loop.example/g00190/laws.FnExactHull", spec := "fnExactHull", apart := false }
def FnExactHullSaid : Prop := fnExactHullRow.holds Try.pinned (OpenSpec.ofChange fnExactHullSpec)

/-- ITS FALSE NEIGHBOUR: 'it returns false'. Refute it at one input. -/
def fnExactHullWrong : ChangeSpec := { name := "fnExactHull", fn := fun _ => fun
  | [d] => { results := [.lit (.bool false)], args := [d] }
  | _ => none }
def FnExactHullWrongFalsely : Prop := fnExactHullRow.holds Try.pinned (OpenSpec.ofChange fnExactHullWrong)

/-- 'laws.FnMovedPaths': WHATEVER THE INPUT: true; the input reads as it did. -/
def fnMovedPathsSpec : ChangeSpec := { name := "fnMovedPaths", fn := fun _ => fun
  | [d] => { results := [.lit (.bool true)], args := [d] }
  | _ => none }
def fnMovedPathsRow : OpenClaim := { program := "ytdlocaecdlgnjaa", sum := "3714e10810d4d4add779d9e5a56b5d252b57c47c2630f34997b262fab27df4ea", func := "loop.example/g00190/laws.FnMovedPaths", spec := "fnMovedPaths", apart := false }
def FnMovedPathsSaid : Prop := fnMovedPathsRow.holds Try.pinned (OpenSpec.ofChange fnMovedPathsSpec)

/-- ITS FALSE NEIGHBOUR: 'it returns false'. Refute it at one input. -/
def fnMovedPathsWrong : ChangeSpec := { name := "fnMovedPaths", fn := fun _ => fun
  | [d] => { results := [.lit (.bool false)], args := [d] }
  | _ => none }
def FnMovedPathsWrongFalsely : Prop := fnMovedPathsRow.holds Try.pinned (OpenSpec.ofChange fnMovedPathsWrong)

/-- 'laws.FnExactMovePath': WHATEVER THE INPUT: true; the input reads as it did. -/
def fnExactMovePathSpec : ChangeSpec := { name := "fnExactMovePath", fn := fun _ => fun
  | [d1, d2] => { results := [.lit (.bool true)], args := [d1, d2] }
  | _ => none }
def fnExactMovePathRow : OpenClaim := { program := "ytdlocaecdlgnjaa", sum := "3714e10810d4d4add779d9e5a56b5d252b57c47c2630f34997b262fab27df4ea", func := "loop.example/g00190/laws.FnExactMovePath", spec := "fnExactMovePath", apart := false }
def FnExactMovePathSaid : Prop := fnExactMovePathRow.holds Try.pinned (OpenSpec.ofChange fnExactMovePathSpec)

/-- ITS FALSE NEIGHBOUR: 'it returns false'. Refute it at one input. -/
def fnExactMovePathWrong : ChangeSpec := { name := "fnExactMovePath", fn := fun _ => fun
  | [d1, d2] => { results := [.lit (.bool false)], args := [d1, d2] }
  | _ => none }
def FnExactMovePathWrongFalsely : Prop := fnExactMovePathRow.holds Try.pinned (OpenSpec.ofChange fnExactMovePathWrong)

/- THE SECOND FORM. 'bulk': how many values and letters a reading holds, each counted each time it is reached (what is shared counts as often as it is met; a slice's spare places count too). A statement '..UptoSaid' is the law's where the arguments, and the package variables that the reading takes, are together of bulk at most 1048576: NARROWER than '..Said'. Prove '..Said' where nothing that the law and all that it calls make is longer than what came in: it says more and counts as full. Else prove '..UptoSaid'. A law counts once. -/
mutual
def uptoBulk {H : Type} : DataW H → Nat
  | .lit (.string bytes) => bytes.length + 1
  | .lit _ => 1
  | .nil => 1
  | .ptr d => uptoBulk d + 1
  | .slice elems spare => uptoBulkAll elems + uptoBulkAll spare + 1
  | .agg parts => uptoBulkAll parts + 1
  | .iface _ d => uptoBulk d + 1
  | .map entries => uptoBulkEntries entries + 1
  | .held _ => 1
def uptoBulkAll {H : Type} : List (DataW H) → Nat
  | [] => 0
  | d :: r => uptoBulk d + uptoBulkAll r
def uptoBulkEntries {H : Type} : List (Lit × DataW H) → Nat
  | [] => 0
  | x :: r => uptoBulkEntry x + uptoBulkEntries r
def uptoBulkEntry {H : Type} : Lit × DataW H → Nat
  | (.string bytes, d) => bytes.length + uptoBulk d + 1
  | (_, d) => uptoBulk d + 1
 end
def uptoSmall : (H : Type) → List (DataW H) → Bool := fun _ ds => decide (uptoBulkAll ds ≤ 1048576)
def OpenSpec.upto (s : _root_.Go.ChangeSpec) : _root_.Go.OpenSpec := { _root_.Go.OpenSpec.ofChange s with cond := some uptoSmall }

/-- 'laws.FnExactQuadAt', WHERE WHAT IT READS IS OF BULK AT MOST 1048576: true; the input reads as it did. -/
def fnExactQuadAtUptoRow : OpenClaim := { program := "ytdlocaecdlgnjaa", sum := "3714e10810d4d4add779d9e5a56b5d252b57c47c2630f34997b262fab27df4ea", func := "loop.example/g00190/laws.FnExactQuadAt", spec := "fnExactQuadAt", apart := false, narrowed := true }
def FnExactQuadAtUptoSaid : Prop := fnExactQuadAtUptoRow.holds Try.pinned (OpenSpec.upto fnExactQuadAtSpec)

/-- 'laws.FnExactCubicAt', WHERE WHAT IT READS IS OF BULK AT MOST 1048576: true; the input reads as it did. -/
def fnExactCubicAtUptoRow : OpenClaim := { program := "ytdlocaecdlgnjaa", sum := "3714e10810d4d4add779d9e5a56b5d252b57c47c2630f34997b262fab27df4ea", func := "loop.example/g00190/laws.FnExactCubicAt", spec := "fnExactCubicAt", apart := false, narrowed := true }
def FnExactCubicAtUptoSaid : Prop := fnExactCubicAtUptoRow.holds Try.pinned (OpenSpec.upto fnExactCubicAtSpec)

/-- 'laws.FnExactApply', WHERE WHAT IT READS IS OF BULK AT MOST 1048576: true; the input reads as it did. -/
def fnExactApplyUptoRow : OpenClaim := { program := "ytdlocaecdlgnjaa", sum := "3714e10810d4d4add779d9e5a56b5d252b57c47c2630f34997b262fab27df4ea", func := "loop.example/g00190/laws.FnExactApply", spec := "fnExactApply", apart := false, narrowed := true }
def FnExactApplyUptoSaid : Prop := fnExactApplyUptoRow.holds Try.pinned (OpenSpec.upto fnExactApplySpec)

/-- 'laws.FnExactBoxOf', WHERE WHAT IT READS IS OF BULK AT MOST 1048576: true; the input reads as it did. -/
def fnExactBoxOfUptoRow : OpenClaim := { program := "ytdlocaecdlgnjaa", sum := "3714e10810d4d4add779d9e5a56b5d252b57c47c2630f34997b262fab27df4ea", func := "loop.example/g00190/laws.FnExactBoxOf", spec := "fnExactBoxOf", apart := false, narrowed := true }
def FnExactBoxOfUptoSaid : Prop := fnExactBoxOfUptoRow.holds Try.pinned (OpenSpec.upto fnExactBoxOfSpec)

/-- 'laws.FnExactRectPath', WHERE WHAT IT READS IS OF BULK AT MOST 1048576: true; the input reads as it did. -/
def fnExactRectPathUptoRow : OpenClaim := { program := "ytdlocaecdlgnjaa", sum := "3714e10810d4d4add779d9e5a56b5d252b57c47c2630f34997b262fab27df4ea", func := "loop.example/g00190/laws.FnExactRectPath", spec := "fnExactRectPath", apart := false, narrowed := true }
def FnExactRectPathUptoSaid : Prop := fnExactRectPathUptoRow.holds Try.pinned (OpenSpec.upto fnExactRectPathSpec)

/-- 'laws.FnPointBoxes', WHERE WHAT IT READS IS OF BULK AT MOST 1048576: true; the input reads as it did. -/
def fnPointBoxesUptoRow : OpenClaim := { program := "ytdlocaecdlgnjaa", sum := "3714e10810d4d4add779d9e5a56b5d252b57c47c2630f34997b262fab27df4ea", func := "loop.example/g00190/laws.FnPointBoxes", spec := "fnPointBoxes", apart := false, narrowed := true }
def FnPointBoxesUptoSaid : Prop := fnPointBoxesUptoRow.holds Try.pinned (OpenSpec.upto fnPointBoxesSpec)

/-- 'laws.FnExactPathOk', WHERE WHAT IT READS IS OF BULK AT MOST 1048576: true; the input reads as it did. -/
def fnExactPathOkUptoRow : OpenClaim := { program := "ytdlocaecdlgnjaa", sum := "3714e10810d4d4add779d9e5a56b5d252b57c47c2630f34997b262fab27df4ea", func := "loop.example/g00190/laws.FnExactPathOk", spec := "fnExactPathOk", apart := false, narrowed := true }
def FnExactPathOkUptoSaid : Prop := fnExactPathOkUptoRow.holds Try.pinned (OpenSpec.upto fnExactPathOkSpec)

/-- 'laws.FnMoves', WHERE WHAT IT READS IS OF BULK AT MOST 1048576: true; the input reads as it did. -/
def fnMovesUptoRow : OpenClaim := { program := "ytdlocaecdlgnjaa", sum := "3714e10810d4d4add779d9e5a56b5d252b57c47c2630f34997b262fab27df4ea", func := "loop.example/g00190/laws.FnMoves", spec := "fnMoves", apart := false, narrowed := true }
def FnMovesUptoSaid : Prop := fnMovesUptoRow.holds Try.pinned (OpenSpec.upto fnMovesSpec)

/-- 'laws.FnExactHull', WHERE WHAT IT READS IS OF BULK AT MOST 1048576: true; the input reads as it did. -/
def fnExactHullUptoRow : OpenClaim := { program := "ytdlocaecdlgnjaa", sum := "3714e10810d4d4add779d9e5a56b5d252b57c47c2630f34997b262fab27df4ea", func := "loop.example/g00190/laws.FnExactHull", spec := "fnExactHull", apart := false, narrowed := true }
def FnExactHullUptoSaid : Prop := fnExactHullUptoRow.holds Try.pinned (OpenSpec.upto fnExactHullSpec)

/-- 'laws.FnMovedPaths', WHERE WHAT IT READS IS OF BULK AT MOST 1048576: true; the input reads as it did. -/
def fnMovedPathsUptoRow : OpenClaim := { program := "ytdlocaecdlgnjaa", sum := "3714e10810d4d4add779d9e5a56b5d252b57c47c2630f34997b262fab27df4ea", func := "loop.example/g00190/laws.FnMovedPaths", spec := "fnMovedPaths", apart := false, narrowed := true }
def FnMovedPathsUptoSaid : Prop := fnMovedPathsUptoRow.holds Try.pinned (OpenSpec.upto fnMovedPathsSpec)

/-- 'laws.FnExactMovePath', WHERE WHAT IT READS IS OF BULK AT MOST 1048576: true; the input reads as it did. -/
def fnExactMovePathUptoRow : OpenClaim := { program := "ytdlocaecdlgnjaa", sum := "3714e10810d4d4add779d9e5a56b5d252b57c47c2630f34997b262fab27df4ea", func := "loop.example/g00190/laws.FnExactMovePath", spec := "fnExactMovePath", apart := false, narrowed := true }
def FnExactMovePathUptoSaid : Prop := fnExactMovePathUptoRow.holds Try.pinned (OpenSpec.upto fnExactMovePathSpec)

end Rows
end Go.Proofs.Ytdlocaecdlgnjaa

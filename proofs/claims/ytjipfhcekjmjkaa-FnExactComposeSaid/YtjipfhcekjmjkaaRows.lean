/-
  No cell of these rows narrows 'for every input' (looked for: loops, veiled, ifaces, maps, wideKeys, modest, calm, conditions, laid).
  DERIVED. THE GIVEN ROWS OF THIS SEAT. 12 by the template 'for every input the law returns true; each argument reads behind the call as it read before'; 0 by the template 'total and deterministic' (their statements: YtjipfhcekjmjkaaTotals.lean).
  GIVEN WITH THE SEED: the statements are not yours to turn. If you find one false, say at which input.
  Laid BY PROGRAM, IN A SANDBOX (cutbox-rows.mjs): the forced cells as the released guide's own fill.sh prints them over the translation 8ccc93c0cdc09e86… (all of the seat's roots in one cut). By AI agents, Wed Nov 11 2026. No macro, syntax, notation, axiom, sorry.
-/
import Derived.Test.YtjipfhcekjmjkaaChecked
import GoSem.Claim
import GoSem.ClaimJoined
import GoSem.ClaimMapViews
import Derived.JoinedTies
import Derived.KernelRfl
namespace Go.Proofs.Ytjipfhcekjmjkaa
/- THE CELL 'sum', in the pinned program and in every row, IS THE sha256 OF THE DUMP (.gsa) THAT YtjipfhcekjmjkaaProg.lean LOADS. Nothing in Lean hashes anything: it is a label: what it is worth is what the hold of that sum in a sandbox is worth. -/
noncomputable def Try.pinned : Pinned := { name := "ytjipfhcekjmjkaa", sum := "8ccc93c0cdc09e863270016d8feb9792e73851edba3bbce123b278cf8c5e844c", checked := Try.checked }
namespace Rows
def none {H : Type} : Left H := { results := [], args := [] }

/-- 'laws.FnExactMatOk': WHATEVER THE INPUT: true; the input reads as it did. -/
def fnExactMatOkSpec : ChangeSpec := { name := "fnExactMatOk", fn := fun _ => fun
  | [d] => { results := [.lit (.bool true)], args := [d] }
  | _ => none }
def fnExactMatOkRow : OpenClaim := { program := "ytjipfhcekjmjkaa", sum := "8ccc93c0cdc09e863270016d8feb9792e73851edba3bbce123b278cf8c5e844c", func := "loop.example/g00190/laws.FnExactMatOk", spec := "fnExactMatOk", apart := false }
def FnExactMatOkSaid : Prop := fnExactMatOkRow.holds Try.pinned (OpenSpec.ofChange fnExactMatOkSpec)

/-- ITS FALSE NEIGHBOUR: 'it returns false'. Refute it at one input. -/
def fnExactMatOkWrong : ChangeSpec := { name := "fnExactMatOk", fn := fun _ => fun
  | [d] => { results := [.lit (.bool false)], args := [d] }
  | _ => none }
def FnExactMatOkWrongFalsely : Prop := fnExactMatOkRow.holds Try.pinned (OpenSpec.ofChange fnExactMatOkWrong)

/-- 'laws.FnExactShift': WHATEVER THE INPUT: true; the input reads as it did. -/
def fnExactShiftSpec : ChangeSpec := { name := "fnExactShift", fn := fun _ => fun
  | [d1, d2] => { results := [.lit (.bool true)], args := [d1, d2] }
  | _ => none }
def fnExactShiftRow : OpenClaim := { program := "ytjipfhcekjmjkaa", sum := "8ccc93c0cdc09e863270016d8feb9792e73851edba3bbce123b278cf8c5e844c", func := "loop.example/g00190/laws.FnExactShift", spec := "fnExactShift", apart := false }
def FnExactShiftSaid : Prop := fnExactShiftRow.holds Try.pinned (OpenSpec.ofChange fnExactShiftSpec)

/-- ITS FALSE NEIGHBOUR: 'it returns false'. Refute it at one input. -/
def fnExactShiftWrong : ChangeSpec := { name := "fnExactShift", fn := fun _ => fun
  | [d1, d2] => { results := [.lit (.bool false)], args := [d1, d2] }
  | _ => none }
def FnExactShiftWrongFalsely : Prop := fnExactShiftRow.holds Try.pinned (OpenSpec.ofChange fnExactShiftWrong)

/-- 'laws.FnExactRoundDiv': WHATEVER THE INPUT: true; the input reads as it did. -/
def fnExactRoundDivSpec : ChangeSpec := { name := "fnExactRoundDiv", fn := fun _ => fun
  | [d1, d2] => { results := [.lit (.bool true)], args := [d1, d2] }
  | _ => none }
def fnExactRoundDivRow : OpenClaim := { program := "ytjipfhcekjmjkaa", sum := "8ccc93c0cdc09e863270016d8feb9792e73851edba3bbce123b278cf8c5e844c", func := "loop.example/g00190/laws.FnExactRoundDiv", spec := "fnExactRoundDiv", apart := false }
def FnExactRoundDivSaid : Prop := fnExactRoundDivRow.holds Try.pinned (OpenSpec.ofChange fnExactRoundDivSpec)

/-- ITS FALSE NEIGHBOUR: 'it returns false'. Refute it at one input. -/
def fnExactRoundDivWrong : ChangeSpec := { name := "fnExactRoundDiv", fn := fun _ => fun
  | [d1, d2] => { results := [.lit (.bool false)], args := [d1, d2] }
  | _ => none }
def FnExactRoundDivWrongFalsely : Prop := fnExactRoundDivRow.holds Try.pinned (OpenSpec.ofChange fnExactRoundDivWrong)

/-- 'laws.FnExactMeetBox': WHATEVER THE INPUT: true; the input reads as it did. -/
def fnExactMeetBoxSpec : ChangeSpec := { name := "fnExactMeetBox", fn := fun _ => fun
  | [d1, d2] => { results := [.lit (.bool true)], args := [d1, d2] }
  | _ => none }
def fnExactMeetBoxRow : OpenClaim := { program := "ytjipfhcekjmjkaa", sum := "8ccc93c0cdc09e863270016d8feb9792e73851edba3bbce123b278cf8c5e844c", func := "loop.example/g00190/laws.FnExactMeetBox", spec := "fnExactMeetBox", apart := false }
def FnExactMeetBoxSaid : Prop := fnExactMeetBoxRow.holds Try.pinned (OpenSpec.ofChange fnExactMeetBoxSpec)

/-- ITS FALSE NEIGHBOUR: 'it returns false'. Refute it at one input. -/
def fnExactMeetBoxWrong : ChangeSpec := { name := "fnExactMeetBox", fn := fun _ => fun
  | [d1, d2] => { results := [.lit (.bool false)], args := [d1, d2] }
  | _ => none }
def FnExactMeetBoxWrongFalsely : Prop := fnExactMeetBoxRow.holds Try.pinned (OpenSpec.ofChange fnExactMeetBoxWrong)

/-- 'laws.FnExactJoinBox': WHATEVER THE INPUT: true; the input reads as it did. -/
def fnExactJoinBoxSpec : ChangeSpec := { name := "fnExactJoinBox", fn := fun _ => fun
  | [d1, d2] => { results := [.lit (.bool true)], args := [d1, d2] }
  | _ => none }
def fnExactJoinBoxRow : OpenClaim := { program := "ytjipfhcekjmjkaa", sum := "8ccc93c0cdc09e863270016d8feb9792e73851edba3bbce123b278cf8c5e844c", func := "loop.example/g00190/laws.FnExactJoinBox", spec := "fnExactJoinBox", apart := false }
def FnExactJoinBoxSaid : Prop := fnExactJoinBoxRow.holds Try.pinned (OpenSpec.ofChange fnExactJoinBoxSpec)

/-- ITS FALSE NEIGHBOUR: 'it returns false'. Refute it at one input. -/
def fnExactJoinBoxWrong : ChangeSpec := { name := "fnExactJoinBox", fn := fun _ => fun
  | [d1, d2] => { results := [.lit (.bool false)], args := [d1, d2] }
  | _ => none }
def FnExactJoinBoxWrongFalsely : Prop := fnExactJoinBoxRow.holds Try.pinned (OpenSpec.ofChange fnExactJoinBoxWrong)

/-- 'laws.FnExactTimes255': WHATEVER THE INPUT: true; the input reads as it did. -/
def fnExactTimes255Spec : ChangeSpec := { name := "fnExactTimes255", fn := fun _ => fun
  | [d1, d2] => { results := [.lit (.bool true)], args := [d1, d2] }
  | _ => none }
def fnExactTimes255Row : OpenClaim := { program := "ytjipfhcekjmjkaa", sum := "8ccc93c0cdc09e863270016d8feb9792e73851edba3bbce123b278cf8c5e844c", func := "loop.example/g00190/laws.FnExactTimes255", spec := "fnExactTimes255", apart := false }
def FnExactTimes255Said : Prop := fnExactTimes255Row.holds Try.pinned (OpenSpec.ofChange fnExactTimes255Spec)

/-- ITS FALSE NEIGHBOUR: 'it returns false'. Refute it at one input. -/
def fnExactTimes255Wrong : ChangeSpec := { name := "fnExactTimes255", fn := fun _ => fun
  | [d1, d2] => { results := [.lit (.bool false)], args := [d1, d2] }
  | _ => none }
def FnExactTimes255WrongFalsely : Prop := fnExactTimes255Row.holds Try.pinned (OpenSpec.ofChange fnExactTimes255Wrong)

/-- 'laws.FnExactGrowBox': WHATEVER THE INPUT: true; the input reads as it did. -/
def fnExactGrowBoxSpec : ChangeSpec := { name := "fnExactGrowBox", fn := fun _ => fun
  | [d1, d2] => { results := [.lit (.bool true)], args := [d1, d2] }
  | _ => none }
def fnExactGrowBoxRow : OpenClaim := { program := "ytjipfhcekjmjkaa", sum := "8ccc93c0cdc09e863270016d8feb9792e73851edba3bbce123b278cf8c5e844c", func := "loop.example/g00190/laws.FnExactGrowBox", spec := "fnExactGrowBox", apart := false }
def FnExactGrowBoxSaid : Prop := fnExactGrowBoxRow.holds Try.pinned (OpenSpec.ofChange fnExactGrowBoxSpec)

/-- ITS FALSE NEIGHBOUR: 'it returns false'. Refute it at one input. -/
def fnExactGrowBoxWrong : ChangeSpec := { name := "fnExactGrowBox", fn := fun _ => fun
  | [d1, d2] => { results := [.lit (.bool false)], args := [d1, d2] }
  | _ => none }
def FnExactGrowBoxWrongFalsely : Prop := fnExactGrowBoxRow.holds Try.pinned (OpenSpec.ofChange fnExactGrowBoxWrong)

/-- 'laws.FnQuotients': WHATEVER THE INPUT: true; the input reads as it did. -/
def fnQuotientsSpec : ChangeSpec := { name := "fnQuotients", fn := fun _ => fun
  | [d] => { results := [.lit (.bool true)], args := [d] }
  | _ => none }
def fnQuotientsRow : OpenClaim := { program := "ytjipfhcekjmjkaa", sum := "8ccc93c0cdc09e863270016d8feb9792e73851edba3bbce123b278cf8c5e844c", func := "loop.example/g00190/laws.FnQuotients", spec := "fnQuotients", apart := false }
def FnQuotientsSaid : Prop := fnQuotientsRow.holds Try.pinned (OpenSpec.ofChange fnQuotientsSpec)

/-- ITS FALSE NEIGHBOUR: 'it returns false'. Refute it at one input. -/
def fnQuotientsWrong : ChangeSpec := { name := "fnQuotients", fn := fun _ => fun
  | [d] => { results := [.lit (.bool false)], args := [d] }
  | _ => none }
def FnQuotientsWrongFalsely : Prop := fnQuotientsRow.holds Try.pinned (OpenSpec.ofChange fnQuotientsWrong)

/-- 'laws.FnBoxes': WHATEVER THE INPUT: true; the input reads as it did. -/
def fnBoxesSpec : ChangeSpec := { name := "fnBoxes", fn := fun _ => fun
  | [d] => { results := [.lit (.bool true)], args := [d] }
  | _ => none }
def fnBoxesRow : OpenClaim := { program := "ytjipfhcekjmjkaa", sum := "8ccc93c0cdc09e863270016d8feb9792e73851edba3bbce123b278cf8c5e844c", func := "loop.example/g00190/laws.FnBoxes", spec := "fnBoxes", apart := false }
def FnBoxesSaid : Prop := fnBoxesRow.holds Try.pinned (OpenSpec.ofChange fnBoxesSpec)

/-- ITS FALSE NEIGHBOUR: 'it returns false'. Refute it at one input. -/
def fnBoxesWrong : ChangeSpec := { name := "fnBoxes", fn := fun _ => fun
  | [d] => { results := [.lit (.bool false)], args := [d] }
  | _ => none }
def FnBoxesWrongFalsely : Prop := fnBoxesRow.holds Try.pinned (OpenSpec.ofChange fnBoxesWrong)

/-- 'laws.FnExactSquares': WHATEVER THE INPUT: true; the input reads as it did. -/
def fnExactSquaresSpec : ChangeSpec := { name := "fnExactSquares", fn := fun _ => fun
  | [d] => { results := [.lit (.bool true)], args := [d] }
  | _ => none }
def fnExactSquaresRow : OpenClaim := { program := "ytjipfhcekjmjkaa", sum := "8ccc93c0cdc09e863270016d8feb9792e73851edba3bbce123b278cf8c5e844c", func := "loop.example/g00190/laws.FnExactSquares", spec := "fnExactSquares", apart := false }
def FnExactSquaresSaid : Prop := fnExactSquaresRow.holds Try.pinned (OpenSpec.ofChange fnExactSquaresSpec)

/-- ITS FALSE NEIGHBOUR: 'it returns false'. Refute it at one input. -/
def fnExactSquaresWrong : ChangeSpec := { name := "fnExactSquares", fn := fun _ => fun
  | [d] => { results := [.lit (.bool false)], args := [d] }
  | _ => none }
def FnExactSquaresWrongFalsely : Prop := fnExactSquaresRow.holds Try.pinned (OpenSpec.ofChange fnExactSquaresWrong)

/-- 'laws.FnBetween': WHATEVER THE INPUT: true; the input reads as it did. -/
def fnBetweenSpec : ChangeSpec := { name := "fnBetween", fn := fun _ => fun
  | [d] => { results := [.lit (.bool true)], args := [d] }
  | _ => none }
def fnBetweenRow : OpenClaim := { program := "ytjipfhcekjmjkaa", sum := "8ccc93c0cdc09e863270016d8feb9792e73851edba3bbce123b278cf8c5e844c", func := "loop.example/g00190/laws.FnBetween", spec := "fnBetween", apart := false }
def FnBetweenSaid : Prop := fnBetweenRow.holds Try.pinned (OpenSpec.ofChange fnBetweenSpec)

/-- ITS FALSE NEIGHBOUR: 'it returns false'. Refute it at one input. -/
def fnBetweenWrong : ChangeSpec := { name := "fnBetween", fn := fun _ => fun
  | [d] => { results := [.lit (.bool false)], args := [d] }
  | _ => none }
def FnBetweenWrongFalsely : Prop := fnBetweenRow.holds Try.pinned (OpenSpec.ofChange fnBetweenWrong)

/-- 'laws.FnExactCompose': WHATEVER THE INPUT: true; the input reads as it did. -/
def fnExactComposeSpec : ChangeSpec := { name := "fnExactCompose", fn := fun _ => fun
  | [d1, d2] => { results := [.lit (.bool true)], args := [d1, d2] }
  | _ => none }
def fnExactComposeRow : OpenClaim := { program := "ytjipfhcekjmjkaa", sum := "8ccc93c0cdc09e863270016d8feb9792e73851edba3bbce123b278cf8c5e844c", func := "loop.example/g00190/laws.FnExactCompose", spec := "fnExactCompose", apart := false }
def FnExactComposeSaid : Prop := fnExactComposeRow.holds Try.pinned (OpenSpec.ofChange fnExactComposeSpec)

/-- ITS FALSE NEIGHBOUR: 'it returns false'. Refute it at one input. -/
def fnExactComposeWrong : ChangeSpec := { name := "fnExactCompose", fn := fun _ => fun
  | [d1, d2] => { results := [.lit (.bool false)], args := [d1, d2] }
  | _ => none }
def FnExactComposeWrongFalsely : Prop := fnExactComposeRow.holds Try.pinned (OpenSpec.ofChange fnExactComposeWrong)

/- THE SECOND FORM. 'bulk': how many values and letters a reading holds, each counted each time it is reached (what is shared counts as often as it is met; a slice's spare places count too). A statement '..UptoSaid' is the law's where the arguments, and the package variables that the reading takes, are together of bulk at most 1048576: NARROWER than '..Said'. Prove '..Said' where nothing that the law and all that it calls make is longer than what came in: it says more and counts as full. Else prove '..UptoSaid'. A law counts once. -/
mutual
def uptoBulk {H : Type} : DataW H → Nat
  | .lit (.string bytes) => bytes.length + 1
  | .lit _ => 1
  | .nil => 1
  | .ptr d => uptoBulk d + 1
  | .slice elems spare => uptoBulkAll elems + uptoBulkAll spare + 1
  | .agg parts => uptoBulkAll parts + 1
  | .iface _ d => uptoBulk d + 1
  | .map entries => uptoBulkEntries entries + 1
  | .held _ => 1
def uptoBulkAll {H : Type} : List (DataW H) → Nat
  | [] => 0
  | d :: r => uptoBulk d + uptoBulkAll r
def uptoBulkEntries {H : Type} : List (Lit × DataW H) → Nat
  | [] => 0
  | x :: r => uptoBulkEntry x + uptoBulkEntries r
def uptoBulkEntry {H : Type} : Lit × DataW H → Nat
  | (.string bytes, d) => bytes.length + uptoBulk d + 1
  | (_, d) => uptoBulk d + 1
 end
def uptoSmall : (H : Type) → List (DataW H) → Bool := fun _ ds => decide (uptoBulkAll ds ≤ 1048576)
def OpenSpec.upto (s : _root_.Go.ChangeSpec) : _root_.Go.OpenSpec := { _root_.Go.OpenSpec.ofChange s with cond := some uptoSmall }

/-- 'laws.FnExactMatOk', WHERE WHAT IT READS IS OF BULK AT MOST 1048576: true; the input reads as it did. -/
def fnExactMatOkUptoRow : OpenClaim := { program := "ytjipfhcekjmjkaa", sum := "8ccc93c0cdc09e863270016d8feb9792e73851edba3bbce123b278cf8c5e844c", func := "loop.example/g00190/laws.FnExactMatOk", spec := "fnExactMatOk", apart := false, narrowed := true }
def FnExactMatOkUptoSaid : Prop := fnExactMatOkUptoRow.holds Try.pinned (OpenSpec.upto fnExactMatOkSpec)

/-- 'laws.FnExactShift', WHERE WHAT IT READS IS OF BULK AT MOST 1048576: true; the input reads as it did. -/
def fnExactShiftUptoRow : OpenClaim := { program := "ytjipfhcekjmjkaa", sum := "8ccc93c0cdc09e863270016d8feb9792e73851edba3bbce123b278cf8c5e844c", func := "loop.example/g00190/laws.FnExactShift", spec := "fnExactShift", apart := false, narrowed := true }
def FnExactShiftUptoSaid : Prop := fnExactShiftUptoRow.holds Try.pinned (OpenSpec.upto fnExactShiftSpec)

/-- 'laws.FnExactRoundDiv', WHERE WHAT IT READS IS OF BULK AT MOST 1048576: true; the input reads as it did. -/
def fnExactRoundDivUptoRow : OpenClaim := { program := "ytjipfhcekjmjkaa", sum := "8ccc93c0cdc09e863270016d8feb9792e73851edba3bbce123b278cf8c5e844c", func := "loop.example/g00190/laws.FnExactRoundDiv", spec := "fnExactRoundDiv", apart := false, narrowed := true }
def FnExactRoundDivUptoSaid : Prop := fnExactRoundDivUptoRow.holds Try.pinned (OpenSpec.upto fnExactRoundDivSpec)

/-- 'laws.FnExactMeetBox', WHERE WHAT IT READS IS OF BULK AT MOST 1048576: true; the input reads as it did. -/
def fnExactMeetBoxUptoRow : OpenClaim := { program := "ytjipfhcekjmjkaa", sum := "8ccc93c0cdc09e863270016d8feb9792e73851edba3bbce123b278cf8c5e844c", func := "loop.example/g00190/laws.FnExactMeetBox", spec := "fnExactMeetBox", apart := false, narrowed := true }
def FnExactMeetBoxUptoSaid : Prop := fnExactMeetBoxUptoRow.holds Try.pinned (OpenSpec.upto fnExactMeetBoxSpec)

/-- 'laws.FnExactJoinBox', WHERE WHAT IT READS IS OF BULK AT MOST 1048576: true; the input reads as it did. -/
def fnExactJoinBoxUptoRow : OpenClaim := { program := "ytjipfhcekjmjkaa", sum := "8ccc93c0cdc09e863270016d8feb9792e73851edba3bbce123b278cf8c5e844c", func := "loop.example/g00190/laws.FnExactJoinBox", spec := "fnExactJoinBox", apart := false, narrowed := true }
def FnExactJoinBoxUptoSaid : Prop := fnExactJoinBoxUptoRow.holds Try.pinned (OpenSpec.upto fnExactJoinBoxSpec)

/-- 'laws.FnExactTimes255', WHERE WHAT IT READS IS OF BULK AT MOST 1048576: true; the input reads as it did. -/
def fnExactTimes255UptoRow : OpenClaim := { program := "ytjipfhcekjmjkaa", sum := "8ccc93c0cdc09e863270016d8feb9792e73851edba3bbce123b278cf8c5e844c", func := "loop.example/g00190/laws.FnExactTimes255", spec := "fnExactTimes255", apart := false, narrowed := true }
def FnExactTimes255UptoSaid : Prop := fnExactTimes255UptoRow.holds Try.pinned (OpenSpec.upto fnExactTimes255Spec)

/-- 'laws.FnExactGrowBox', WHERE WHAT IT READS IS OF BULK AT MOST 1048576: true; the input reads as it did. -/
def fnExactGrowBoxUptoRow : OpenClaim := { program := "ytjipfhcekjmjkaa", sum := "8ccc93c0cdc09e863270016d8feb9792e73851edba3bbce123b278cf8c5e844c", func := "loop.example/g00190/laws.FnExactGrowBox", spec := "fnExactGrowBox", apart := false, narrowed := true }
def FnExactGrowBoxUptoSaid : Prop := fnExactGrowBoxUptoRow.holds Try.pinned (OpenSpec.upto fnExactGrowBoxSpec)

/-- 'laws.FnQuotients', WHERE WHAT IT READS IS OF BULK AT MOST 1048576: true; the input reads as it did. -/
def fnQuotientsUptoRow : OpenClaim := { program := "ytjipfhcekjmjkaa", sum := "8ccc93c0cdc09e863270016d8feb9792e73851edba3bbce123b278cf8c5e844c", func := "loop.example/g00190/laws.FnQuotients", spec := "fnQuotients", apart := false, narrowed := true }
def FnQuotientsUptoSaid : Prop := fnQuotientsUptoRow.holds Try.pinned (OpenSpec.upto fnQuotientsSpec)

/-- 'laws.FnBoxes', WHERE WHAT IT READS IS OF BULK AT MOST 1048576: true; the input reads as it did. -/
def fnBoxesUptoRow : OpenClaim := { program := "ytjipfhcekjmjkaa", sum := "8ccc93c0cdc09e863270016d8feb9792e73851edba3bbce123b278cf8c5e844c", func := "loop.example/g00190/laws.FnBoxes", spec := "fnBoxes", apart := false, narrowed := true }
def FnBoxesUptoSaid : Prop := fnBoxesUptoRow.holds Try.pinned (OpenSpec.upto fnBoxesSpec)

/-- 'laws.FnExactSquares', WHERE WHAT IT READS IS OF BULK AT MOST 1048576: true; the input reads as it did. -/
def fnExactSquaresUptoRow : OpenClaim := { program := "ytjipfhcekjmjkaa", sum := "8ccc93c0cdc09e863270016d8feb9792e73851edba3bbce123b278cf8c5e844c", func := "loop.example/g00190/laws.FnExactSquares", spec := "fnExactSquares", apart := false, narrowed := true }
def FnExactSquaresUptoSaid : Prop := fnExactSquaresUptoRow.holds Try.pinned (OpenSpec.upto fnExactSquaresSpec)

/-- 'laws.FnBetween', WHERE WHAT IT READS IS OF BULK AT MOST 1048576: true; the input reads as it did. -/
def fnBetweenUptoRow : OpenClaim := { program := "ytjipfhcekjmjkaa", sum := "8ccc93c0cdc09e863270016d8feb9792e73851edba3bbce123b278cf8c5e844c", func := "loop.example/g00190/laws.FnBetween", spec := "fnBetween", apart := false, narrowed := true }
def FnBetweenUptoSaid : Prop := fnBetweenUptoRow.holds Try.pinned (OpenSpec.upto fnBetweenSpec)

/-- 'laws.FnExactCompose', WHERE WHAT IT READS IS OF BULK AT MOST 1048576: true; the input reads as it did. -/
def fnExactComposeUptoRow : OpenClaim := { program := "ytjipfhcekjmjkaa", sum := "8ccc93c0cdc09e863270016d8feb9792e73851edba3bbce123b278cf8c5e844c", func := "loop.example/g00190/laws.FnExactCompose", spec := "fnExactCompose", apart := false, narrowed := true }
def FnExactComposeUptoSaid : Prop := fnExactComposeUptoRow.holds Try.pinned (OpenSpec.upto fnExactComposeSpec)

end Rows
end Go.Proofs.Ytjipfhcekjmjkaa

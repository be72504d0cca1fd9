/-
  No cell of these rows narrows 'for every input' (looked for: loops, veiled, ifaces, maps, wideKeys, modest, calm, conditions, laid).
  DERIVED. THE GIVEN ROWS OF THIS SEAT. 12 by the template 'for every input the law returns true; each argument reads behind the call as it read before'; 0 by the template 'total and deterministic' (their statements: YtcfopbkahlkolaaTotals.lean).
  GIVEN WITH THE SEED: the statements are not yours to turn. If you find one false, say at which input.
  Laid BY PROGRAM, IN A SANDBOX (cutbox-rows.mjs): the forced cells as the released guide's own fill.sh prints them over the translation e61337861974908c… (all of the seat's roots in one cut). By AI agents, Wed Nov 11 2026. No macro, syntax, notation, axiom, sorry.
-/
import Derived.Test.YtcfopbkahlkolaaChecked
import GoSem.Claim
import GoSem.ClaimJoined
import GoSem.ClaimMapViews
import Derived.JoinedTies
import Derived.KernelRfl
namespace Go.Proofs.Ytcfopbkahlkolaa
/- THE CELL 'sum', in the pinned program and in every row, IS THE sha256 OF THE DUMP (.gsa) THAT YtcfopbkahlkolaaProg.lean LOADS. Nothing in Lean hashes anything: it is a label: what it is worth is what the hold of that sum in a sandbox is worth. -/
noncomputable def Try.pinned : Pinned := { name := "ytcfopbkahlkolaa", sum := "e61337861974908c7860a40132dc6b658276311112762ae46249dcc2b37774a4", checked := Try.checked }
namespace Rows
def none {H : Type} : Left H := { results := [], args := [] }

/-- 'laws.FnExactConstants': WHATEVER THE INPUT: true; the input reads as it did. -/
def fnExactConstantsSpec : ChangeSpec := { name := "fnExactConstants", fn := fun _ => fun
  | [] => { results := [.lit (.bool true)], args := [] }
  | _ => none }
def fnExactConstantsRow : OpenClaim := { program := "ytcfopbkahlkolaa", sum := "e61337861974908c7860a40132dc6b658276311112762ae46249dcc2b37774a4", func := "loop.example/g03303/laws.FnExactConstants", spec := "fnExactConstants", apart := false }
def FnExactConstantsSaid : Prop := fnExactConstantsRow.holds Try.pinned (OpenSpec.ofChange fnExactConstantsSpec)

/-- ITS FALSE NEIGHBOUR: 'it returns false'. Refute it at one input. -/
def fnExactConstantsWrong : ChangeSpec := { name := "fnExactConstants", fn := fun _ => fun
  | [] => { results := [.lit (.bool false)], args := [] }
  | _ => none }
def FnExactConstantsWrongFalsely : Prop := fnExactConstantsRow.holds Try.pinned (OpenSpec.ofChange fnExactConstantsWrong)

/-- 'laws.FnExactNodeOk': WHATEVER THE INPUT: true; the input reads as it did. -/
def fnExactNodeOkSpec : ChangeSpec := { name := "fnExactNodeOk", fn := fun _ => fun
  | [d] => { results := [.lit (.bool true)], args := [d] }
  | _ => none }
def fnExactNodeOkRow : OpenClaim := { program := "ytcfopbkahlkolaa", sum := "e61337861974908c7860a40132dc6b658276311112762ae46249dcc2b37774a4", func := "loop.example/g03303/laws.FnExactNodeOk", spec := "fnExactNodeOk", apart := false }
def FnExactNodeOkSaid : Prop := fnExactNodeOkRow.holds Try.pinned (OpenSpec.ofChange fnExactNodeOkSpec)

/-- ITS FALSE NEIGHBOUR: 'it returns false'. Refute it at one input. -/
def fnExactNodeOkWrong : ChangeSpec := { name := "fnExactNodeOk", fn := fun _ => fun
  | [d] => { results := [.lit (.bool false)], args := [d] }
  | _ => none }
def FnExactNodeOkWrongFalsely : Prop := fnExactNodeOkRow.holds Try.pinned (OpenSpec.ofChange fnExactNodeOkWrong)

/-- 'laws.FnExactShareNode': WHATEVER THE INPUT: true; the input reads as it did. -/
def fnExactShareNodeSpec : ChangeSpec := { name := "fnExactShareNode", fn := fun _ => fun
  | [d1, d2] => { results := [.lit (.bool true)], args := [d1, d2] }
  | _ => none }
def fnExactShareNodeRow : OpenClaim := { program := "ytcfopbkahlkolaa", sum := "e61337861974908c7860a40132dc6b658276311112762ae46249dcc2b37774a4", func := "loop.example/g03303/laws.FnExactShareNode", spec := "fnExactShareNode", apart := false }
def FnExactShareNodeSaid : Prop := fnExactShareNodeRow.holds Try.pinned (OpenSpec.ofChange fnExactShareNodeSpec)

/-- ITS FALSE NEIGHBOUR: 'it returns false'. Refute it at one input. -/
def fnExactShareNodeWrong : ChangeSpec := { name := "fnExactShareNode", fn := fun _ => fun
  | [d1, d2] => { results := [.lit (.bool false)], args := [d1, d2] }
  | _ => none }
def FnExactShareNodeWrongFalsely : Prop := fnExactShareNodeRow.holds Try.pinned (OpenSpec.ofChange fnExactShareNodeWrong)

/-- 'laws.FnExactTwinOf': WHATEVER THE INPUT: true; the input reads as it did. -/
def fnExactTwinOfSpec : ChangeSpec := { name := "fnExactTwinOf", fn := fun _ => fun
  | [d] => { results := [.lit (.bool true)], args := [d] }
  | _ => none }
def fnExactTwinOfRow : OpenClaim := { program := "ytcfopbkahlkolaa", sum := "e61337861974908c7860a40132dc6b658276311112762ae46249dcc2b37774a4", func := "loop.example/g03303/laws.FnExactTwinOf", spec := "fnExactTwinOf", apart := false }
def FnExactTwinOfSaid : Prop := fnExactTwinOfRow.holds Try.pinned (OpenSpec.ofChange fnExactTwinOfSpec)

/-- ITS FALSE NEIGHBOUR: 'it returns false'. Refute it at one input. -/
def fnExactTwinOfWrong : ChangeSpec := { name := "fnExactTwinOf", fn := fun _ => fun
  | [d] => { results := [.lit (.bool false)], args := [d] }
  | _ => none }
def FnExactTwinOfWrongFalsely : Prop := fnExactTwinOfRow.holds Try.pinned (OpenSpec.ofChange fnExactTwinOfWrong)

/-- 'laws.FnExactClamp': WHATEVER THE INPUT: true; the input reads as it did. -/
def fnExactClampSpec : ChangeSpec := { name := "fnExactClamp", fn := fun _ => fun
  | [d1, d2, d3] => { results := [.lit (.bool true)], args := [d1, d2, d3] }
  | _ => none }
def fnExactClampRow : OpenClaim := { program := "ytcfopbkahlkolaa", sum := "e61337861974908c7860a40132dc6b658276311112762ae46249dcc2b37774a4", func := "loop.example/g03303/laws.FnExactClamp", spec := "fnExactClamp", apart := false }
def FnExactClampSaid : Prop := fnExactClampRow.holds Try.pinned (OpenSpec.ofChange fnExactClampSpec)

/-- ITS FALSE NEIGHBOUR: 'it returns false'. Refute it at one input. -/
def fnExactClampWrong : ChangeSpec := { name := "fnExactClamp", fn := fun _ => fun
  | [d1, d2, d3] => { results := [.lit (.bool false)], args := [d1, d2, d3] }
  | _ => none }
def FnExactClampWrongFalsely : Prop := fnExactClampRow.holds Try.pinned (OpenSpec.ofChange fnExactClampWrong)

/-- 'laws.FnExactHalfPlane': WHATEVER THE INPUT: true; the input reads as it did. -/
def fnExactHalfPlaneSpec : ChangeSpec := { name := "fnExactHalfPlane", fn := fun _ => fun
  | [d1, d2] => { results := [.lit (.bool true)], args := [d1, d2] }
  | _ => none }
def fnExactHalfPlaneRow : OpenClaim := { program := "ytcfopbkahlkolaa", sum := "e61337861974908c7860a40132dc6b658276311112762ae46249dcc2b37774a4", func := "loop.example/g03303/laws.FnExactHalfPlane", spec := "fnExactHalfPlane", apart := false }
def FnExactHalfPlaneSaid : Prop := fnExactHalfPlaneRow.holds Try.pinned (OpenSpec.ofChange fnExactHalfPlaneSpec)

/-- ITS FALSE NEIGHBOUR: 'it returns false'. Refute it at one input. -/
def fnExactHalfPlaneWrong : ChangeSpec := { name := "fnExactHalfPlane", fn := fun _ => fun
  | [d1, d2] => { results := [.lit (.bool false)], args := [d1, d2] }
  | _ => none }
def FnExactHalfPlaneWrongFalsely : Prop := fnExactHalfPlaneRow.holds Try.pinned (OpenSpec.ofChange fnExactHalfPlaneWrong)

/-- 'laws.FnExactOtherEnd': WHATEVER THE INPUT: true; the input reads as it did. -/
def fnExactOtherEndSpec : ChangeSpec := { name := "fnExactOtherEnd", fn := fun _ => fun
  | [d1, d2] => { results := [.lit (.bool true)], args := [d1, d2] }
  | _ => none }
def fnExactOtherEndRow : OpenClaim := { program := "ytcfopbkahlkolaa", sum := "e61337861974908c7860a40132dc6b658276311112762ae46249dcc2b37774a4", func := "loop.example/g03303/laws.FnExactOtherEnd", spec := "fnExactOtherEnd", apart := false }
def FnExactOtherEndSaid : Prop := fnExactOtherEndRow.holds Try.pinned (OpenSpec.ofChange fnExactOtherEndSpec)

/-- ITS FALSE NEIGHBOUR: 'it returns false'. Refute it at one input. -/
def fnExactOtherEndWrong : ChangeSpec := { name := "fnExactOtherEnd", fn := fun _ => fun
  | [d1, d2] => { results := [.lit (.bool false)], args := [d1, d2] }
  | _ => none }
def FnExactOtherEndWrongFalsely : Prop := fnExactOtherEndRow.holds Try.pinned (OpenSpec.ofChange fnExactOtherEndWrong)

/-- 'laws.FnExactLengthSquare': WHATEVER THE INPUT: true; the input reads as it did. -/
def fnExactLengthSquareSpec : ChangeSpec := { name := "fnExactLengthSquare", fn := fun _ => fun
  | [d1, d2] => { results := [.lit (.bool true)], args := [d1, d2] }
  | _ => none }
def fnExactLengthSquareRow : OpenClaim := { program := "ytcfopbkahlkolaa", sum := "e61337861974908c7860a40132dc6b658276311112762ae46249dcc2b37774a4", func := "loop.example/g03303/laws.FnExactLengthSquare", spec := "fnExactLengthSquare", apart := false }
def FnExactLengthSquareSaid : Prop := fnExactLengthSquareRow.holds Try.pinned (OpenSpec.ofChange fnExactLengthSquareSpec)

/-- ITS FALSE NEIGHBOUR: 'it returns false'. Refute it at one input. -/
def fnExactLengthSquareWrong : ChangeSpec := { name := "fnExactLengthSquare", fn := fun _ => fun
  | [d1, d2] => { results := [.lit (.bool false)], args := [d1, d2] }
  | _ => none }
def FnExactLengthSquareWrongFalsely : Prop := fnExactLengthSquareRow.holds Try.pinned (OpenSpec.ofChange fnExactLengthSquareWrong)

/-- 'laws.FnExactTurnOf': WHATEVER THE INPUT: true; the input reads as it did. -/
def fnExactTurnOfSpec : ChangeSpec := { name := "fnExactTurnOf", fn := fun _ => fun
  | [d1, d2, d3] => { results := [.lit (.bool true)], args := [d1, d2, d3] }
  | _ => none }
def fnExactTurnOfRow : OpenClaim := { program := "ytcfopbkahlkolaa", sum := "e61337861974908c7860a40132dc6b658276311112762ae46249dcc2b37774a4", func := "loop.example/g03303/laws.FnExactTurnOf", spec := "fnExactTurnOf", apart := false }
def FnExactTurnOfSaid : Prop := fnExactTurnOfRow.holds Try.pinned (OpenSpec.ofChange fnExactTurnOfSpec)

/-- ITS FALSE NEIGHBOUR: 'it returns false'. Refute it at one input. -/
def fnExactTurnOfWrong : ChangeSpec := { name := "fnExactTurnOf", fn := fun _ => fun
  | [d1, d2, d3] => { results := [.lit (.bool false)], args := [d1, d2, d3] }
  | _ => none }
def FnExactTurnOfWrongFalsely : Prop := fnExactTurnOfRow.holds Try.pinned (OpenSpec.ofChange fnExactTurnOfWrong)

/-- 'laws.FnExactIsBetween': WHATEVER THE INPUT: true; the input reads as it did. -/
def fnExactIsBetweenSpec : ChangeSpec := { name := "fnExactIsBetween", fn := fun _ => fun
  | [d1, d2, d3] => { results := [.lit (.bool true)], args := [d1, d2, d3] }
  | _ => none }
def fnExactIsBetweenRow : OpenClaim := { program := "ytcfopbkahlkolaa", sum := "e61337861974908c7860a40132dc6b658276311112762ae46249dcc2b37774a4", func := "loop.example/g03303/laws.FnExactIsBetween", spec := "fnExactIsBetween", apart := false }
def FnExactIsBetweenSaid : Prop := fnExactIsBetweenRow.holds Try.pinned (OpenSpec.ofChange fnExactIsBetweenSpec)

/-- ITS FALSE NEIGHBOUR: 'it returns false'. Refute it at one input. -/
def fnExactIsBetweenWrong : ChangeSpec := { name := "fnExactIsBetween", fn := fun _ => fun
  | [d1, d2, d3] => { results := [.lit (.bool false)], args := [d1, d2, d3] }
  | _ => none }
def FnExactIsBetweenWrongFalsely : Prop := fnExactIsBetweenRow.holds Try.pinned (OpenSpec.ofChange fnExactIsBetweenWrong)

/-- 'laws.FnExactIsBeforeAround': WHATEVER THE INPUT: true; the input reads as it did. -/
def fnExactIsBeforeAroundSpec : ChangeSpec := { name := "fnExactIsBeforeAround", fn := fun _ => fun
  | [d1, d2, d3] => { results := [.lit (.bool true)], args := [d1, d2, d3] }
  | _ => none }
def fnExactIsBeforeAroundRow : OpenClaim := { program := "ytcfopbkahlkolaa", sum := "e61337861974908c7860a40132dc6b658276311112762ae46249dcc2b37774a4", func := "loop.example/g03303/laws.FnExactIsBeforeAround", spec := "fnExactIsBeforeAround", apart := false }
def FnExactIsBeforeAroundSaid : Prop := fnExactIsBeforeAroundRow.holds Try.pinned (OpenSpec.ofChange fnExactIsBeforeAroundSpec)

/-- ITS FALSE NEIGHBOUR: 'it returns false'. Refute it at one input. -/
def fnExactIsBeforeAroundWrong : ChangeSpec := { name := "fnExactIsBeforeAround", fn := fun _ => fun
  | [d1, d2, d3] => { results := [.lit (.bool false)], args := [d1, d2, d3] }
  | _ => none }
def FnExactIsBeforeAroundWrongFalsely : Prop := fnExactIsBeforeAroundRow.holds Try.pinned (OpenSpec.ofChange fnExactIsBeforeAroundWrong)

/-- 'laws.FnNodes': WHATEVER THE INPUT: true; the input reads as it did. -/
def fnNodesSpec : ChangeSpec := { name := "fnNodes", fn := fun _ => fun
  | [d] => { results := [.lit (.bool true)], args := [d] }
  | _ => none }
def fnNodesRow : OpenClaim := { program := "ytcfopbkahlkolaa", sum := "e61337861974908c7860a40132dc6b658276311112762ae46249dcc2b37774a4", func := "loop.example/g03303/laws.FnNodes", spec := "fnNodes", apart := false }
def FnNodesSaid : Prop := fnNodesRow.holds Try.pinned (OpenSpec.ofChange fnNodesSpec)

/-- ITS FALSE NEIGHBOUR: 'it returns false'. Refute it at one input. -/
def fnNodesWrong : ChangeSpec := { name := "fnNodes", fn := fun _ => fun
  | [d] => { results := [.lit (.bool false)], args := [d] }
  | _ => none }
def FnNodesWrongFalsely : Prop := fnNodesRow.holds Try.pinned (OpenSpec.ofChange fnNodesWrong)

/- THE SECOND FORM. 'bulk': how many values and letters a reading holds, each counted each time it is reached (what is shared counts as often as it is met; a slice's spare places count too). A statement '..UptoSaid' is the law's where the arguments, and the package variables that the reading takes, are together of bulk at most 1048576: NARROWER than '..Said'. Prove '..Said' where nothing that the law and all that it calls make is longer than what came in: it says more and counts as full. Else prove '..UptoSaid'. A law counts once. -/
mutual
def uptoBulk {H : Type} : DataW H → Nat
  | .lit (.string bytes) => bytes.length + 1
  | .lit _ => 1
  | .nil => 1
  | .ptr d => uptoBulk d + 1
  | .slice elems spare => uptoBulkAll elems + uptoBulkAll spare + 1
  | .agg parts => uptoBulkAll parts + 1
  | .iface _ d => uptoBulk d + 1
  | .map entries => uptoBulkEntries entries + 1
  | .held _ => 1
def uptoBulkAll {H : Type} : List (DataW H) → Nat
  | [] => 0
  | d :: r => uptoBulk d + uptoBulkAll r
def uptoBulkEntries {H : Type} : List (Lit × DataW H) → Nat
  | [] => 0
  | x :: r => uptoBulkEntry x + uptoBulkEntries r
def uptoBulkEntry {H : Type} : Lit × DataW H → Nat
  | (.string bytes, d) => bytes.length + uptoBulk d + 1
  | (_, d) => uptoBulk d + 1
 end
def uptoSmall : (H : Type) → List (DataW H) → Bool := fun _ ds => decide (uptoBulkAll ds ≤ 1048576)
def OpenSpec.upto (s : _root_.Go.ChangeSpec) : _root_.Go.OpenSpec := { _root_.Go.OpenSpec.ofChange s with cond := some uptoSmall }

/-- 'laws.FnExactConstants', WHERE WHAT IT READS IS OF BULK AT MOST 1048576: true; the input reads as it did. -/
def fnExactConstantsUptoRow : OpenClaim := { program := "ytcfopbkahlkolaa", sum := "e61337861974908c7860a40132dc6b658276311112762ae46249dcc2b37774a4", func := "loop.example/g03303/laws.FnExactConstants", spec := "fnExactConstants", apart := false, narrowed := true }
def FnExactConstantsUptoSaid : Prop := fnExactConstantsUptoRow.holds Try.pinned (OpenSpec.upto fnExactConstantsSpec)

/-- 'laws.FnExactNodeOk', WHERE WHAT IT READS IS OF BULK AT MOST 1048576: true; the input reads as it did. -/
def fnExactNodeOkUptoRow : OpenClaim := { program := "ytcfopbkahlkolaa", sum := "e61337861974908c7860a40132dc6b658276311112762ae46249dcc2b37774a4", func := "loop.example/g03303/laws.FnExactNodeOk", spec := "fnExactNodeOk", apart := false, narrowed := true }
def FnExactNodeOkUptoSaid : Prop := fnExactNodeOkUptoRow.holds Try.pinned (OpenSpec.upto fnExactNodeOkSpec)

/-- 'laws.FnExactShareNode', WHERE WHAT IT READS IS OF BULK AT MOST 1048576: true; the input reads as it did. -/
def fnExactShareNodeUptoRow : OpenClaim := { program := "ytcfopbkahlkolaa", sum := "e61337861974908c7860a40132dc6b658276311112762ae46249dcc2b37774a4", func := "loop.example/g03303/laws.FnExactShareNode", spec := "fnExactShareNode", apart := false, narrowed := true }
def FnExactShareNodeUptoSaid : Prop := fnExactShareNodeUptoRow.holds Try.pinned (OpenSpec.upto fnExactShareNodeSpec)

/-- 'laws.FnExactTwinOf', WHERE WHAT IT READS IS OF BULK AT MOST 1048576: true; the input reads as it did. -/
def fnExactTwinOfUptoRow : OpenClaim := { program := "ytcfopbkahlkolaa", sum := "e61337861974908c7860a40132dc6b658276311112762ae46249dcc2b37774a4", func := "loop.example/g03303/laws.FnExactTwinOf", spec := "fnExactTwinOf", apart := false, narrowed := true }
def FnExactTwinOfUptoSaid : Prop := fnExactTwinOfUptoRow.holds Try.pinned (OpenSpec.upto fnExactTwinOfSpec)

/-- 'laws.FnExactClamp', WHERE WHAT IT READS IS OF BULK AT MOST 1048576: true; the input reads as it did. -/
def fnExactClampUptoRow : OpenClaim := { program := "ytcfopbkahlkolaa", sum := "e61337861974908c7860a40132dc6b658276311112762ae46249dcc2b37774a4", func := "loop.example/g03303/laws.FnExactClamp", spec := "fnExactClamp", apart := false, narrowed := true }
def FnExactClampUptoSaid : Prop := fnExactClampUptoRow.holds Try.pinned (OpenSpec.upto fnExactClampSpec)

/-- 'laws.FnExactHalfPlane', WHERE WHAT IT READS IS OF BULK AT MOST 1048576: true; the input reads as it did. -/
def fnExactHalfPlaneUptoRow : OpenClaim := { program := "ytcfopbkahlkolaa", sum := "e61337861974908c7860a40132dc6b658276311112762ae46249dcc2b37774a4", func := "loop.example/g03303/laws.FnExactHalfPlane", spec := "fnExactHalfPlane", apart := false, narrowed := true }
def FnExactHalfPlaneUptoSaid : Prop := fnExactHalfPlaneUptoRow.holds Try.pinned (OpenSpec.upto fnExactHalfPlaneSpec)

/-- 'laws.FnExactOtherEnd', WHERE WHAT IT READS IS OF BULK AT MOST 1048576: true; the input reads as it did. -/
def fnExactOtherEndUptoRow : OpenClaim := { program := "ytcfopbkahlkolaa", sum := "e61337861974908c7860a40132dc6b658276311112762ae46249dcc2b37774a4", func := "loop.example/g03303/laws.FnExactOtherEnd", spec := "fnExactOtherEnd", apart := false, narrowed := true }
def FnExactOtherEndUptoSaid : Prop := fnExactOtherEndUptoRow.holds Try.pinned (OpenSpec.upto fnExactOtherEndSpec)

/-- 'laws.FnExactLengthSquare', WHERE WHAT IT READS IS OF BULK AT MOST 1048576: true; the input reads as it did. -/
def fnExactLengthSquareUptoRow : OpenClaim := { program := "ytcfopbkahlkolaa", sum := "e61337861974908c7860a40132dc6b658276311112762ae46249dcc2b37774a4", func := "loop.example/g03303/laws.FnExactLengthSquare", spec := "fnExactLengthSquare", apart := false, narrowed := true }
def FnExactLengthSquareUptoSaid : Prop := fnExactLengthSquareUptoRow.holds Try.pinned (OpenSpec.upto fnExactLengthSquareSpec)

/-- 'laws.FnExactTurnOf', WHERE WHAT IT READS IS OF BULK AT MOST 1048576: true; the input reads as it did. -/
def fnExactTurnOfUptoRow : OpenClaim := { program := "ytcfopbkahlkolaa", sum := "e61337861974908c7860a40132dc6b658276311112762ae46249dcc2b37774a4", func := "loop.example/g03303/laws.FnExactTurnOf", spec := "fnExactTurnOf", apart := false, narrowed := true }
def FnExactTurnOfUptoSaid : Prop := fnExactTurnOfUptoRow.holds Try.pinned (OpenSpec.upto fnExactTurnOfSpec)

/-- 'laws.FnExactIsBetween', WHERE WHAT IT READS IS OF BULK AT MOST 1048576: true; the input reads as it did. -/
def fnExactIsBetweenUptoRow : OpenClaim := { program := "ytcfopbkahlkolaa", sum := "e61337861974908c7860a40132dc6b658276311112762ae46249dcc2b37774a4", func := "loop.example/g03303/laws.FnExactIsBetween", spec := "fnExactIsBetween", apart := false, narrowed := true }
def FnExactIsBetweenUptoSaid : Prop := fnExactIsBetweenUptoRow.holds Try.pinned (OpenSpec.upto fnExactIsBetweenSpec)

/-- 'laws.FnExactIsBeforeAround', WHERE WHAT IT READS IS OF BULK AT MOST 1048576: true; the input reads as it did. -/
def fnExactIsBeforeAroundUptoRow : OpenClaim := { program := "ytcfopbkahlkolaa", sum := "e61337861974908c7860a40132dc6b658276311112762ae46249dcc2b37774a4", func := "loop.example/g03303/laws.FnExactIsBeforeAround", spec := "fnExactIsBeforeAround", apart := false, narrowed := true }
def FnExactIsBeforeAroundUptoSaid : Prop := fnExactIsBeforeAroundUptoRow.holds Try.pinned (OpenSpec.upto fnExactIsBeforeAroundSpec)

/-- 'laws.FnNodes', WHERE WHAT IT READS IS OF BULK AT MOST 1048576: true; the input reads as it did. -/
def fnNodesUptoRow : OpenClaim := { program := "ytcfopbkahlkolaa", sum := "e61337861974908c7860a40132dc6b658276311112762ae46249dcc2b37774a4", func := "loop.example/g03303/laws.FnNodes", spec := "fnNodes", apart := false, narrowed := true }
def FnNodesUptoSaid : Prop := fnNodesUptoRow.holds Try.pinned (OpenSpec.upto fnNodesSpec)

end Rows
end Go.Proofs.Ytcfopbkahlkolaa

/-
  No cell of these rows narrows 'for every input' (looked for: loops, veiled, ifaces, maps, wideKeys, modest, calm, conditions, laid).
  DERIVED. THE GIVEN ROWS OF THIS SEAT. 11 by the template 'for every input the law returns true; each argument reads behind the call as it read before'; 0 by the template 'total and deterministic' (their statements: YtdhppajfdcfikaaTotals.lean).
  GIVEN WITH THE SEED: the statements are not yours to turn. If you find one false, say at which input.
  Laid BY PROGRAM, IN A SANDBOX (cutbox-rows.mjs): the forced cells as the released guide's own fill.sh prints them over the translation fe3cba340b9ecf46… (all of the seat's roots in one cut). By AI agents, Wed Nov 11 2026. No macro, syntax, notation, axiom, sorry.
-/
import Derived.Test.YtdhppajfdcfikaaChecked
import GoSem.Claim
import GoSem.ClaimJoined
import GoSem.ClaimMapViews
import Derived.JoinedTies
import Derived.KernelRfl
namespace Go.Proofs.Ytdhppajfdcfikaa
/- THE CELL 'sum', in the pinned program and in every row, IS THE sha256 OF THE DUMP (.gsa) THAT YtdhppajfdcfikaaProg.lean LOADS. Nothing in Lean hashes anything: it is a label: what it is worth is what the hold of that sum in a sandbox is worth. -/
noncomputable def Try.pinned : Pinned := { name := "ytdhppajfdcfikaa", sum := "fe3cba340b9ecf46df5fcde3f952202a484de83d8b15c3d8cb9d401c4842b1a8", checked := Try.checked }
namespace Rows
def none {H : Type} : Left H := { results := [], args := [] }

/-- 'laws.FnExactWalkLength': WHATEVER THE INPUT: true; the input reads as it did. -/
def fnExactWalkLengthSpec : ChangeSpec := { name := "fnExactWalkLength", fn := fun _ => fun
  | [d1, d2] => { results := [.lit (.bool true)], args := [d1, d2] }
  | _ => none }
def fnExactWalkLengthRow : OpenClaim := { program := "ytdhppajfdcfikaa", sum := "fe3cba340b9ecf46df5fcde3f952202a484de83d8b15c3d8cb9d401c4842b1a8", func := "loop.example/g03303/laws.FnExactWalkLength", spec := "fnExactWalkLength", unfollowed := true, recurses := true, apart := false }
def FnExactWalkLengthSaid : Prop := fnExactWalkLengthRow.holds Try.pinned (OpenSpec.ofChange fnExactWalkLengthSpec)

/-- ITS FALSE NEIGHBOUR: 'it returns false'. Refute it at one input. -/
def fnExactWalkLengthWrong : ChangeSpec := { name := "fnExactWalkLength", fn := fun _ => fun
  | [d1, d2] => { results := [.lit (.bool false)], args := [d1, d2] }
  | _ => none }
def FnExactWalkLengthWrongFalsely : Prop := fnExactWalkLengthRow.holds Try.pinned (OpenSpec.ofChange fnExactWalkLengthWrong)

/-- 'laws.FnExactSameWalk': WHATEVER THE INPUT: true; the input reads as it did. -/
def fnExactSameWalkSpec : ChangeSpec := { name := "fnExactSameWalk", fn := fun _ => fun
  | [d1, d2, d3] => { results := [.lit (.bool true)], args := [d1, d2, d3] }
  | _ => none }
def fnExactSameWalkRow : OpenClaim := { program := "ytdhppajfdcfikaa", sum := "fe3cba340b9ecf46df5fcde3f952202a484de83d8b15c3d8cb9d401c4842b1a8", func := "loop.example/g03303/laws.FnExactSameWalk", spec := "fnExactSameWalk", unfollowed := true, recurses := true, apart := false }
def FnExactSameWalkSaid : Prop := fnExactSameWalkRow.holds Try.pinned (OpenSpec.ofChange fnExactSameWalkSpec)

/-- ITS FALSE NEIGHBOUR: 'it returns false'. Refute it at one input. -/
def fnExactSameWalkWrong : ChangeSpec := { name := "fnExactSameWalk", fn := fun _ => fun
  | [d1, d2, d3] => { results := [.lit (.bool false)], args := [d1, d2, d3] }
  | _ => none }
def FnExactSameWalkWrongFalsely : Prop := fnExactSameWalkRow.holds Try.pinned (OpenSpec.ofChange fnExactSameWalkWrong)

/-- 'laws.FnExactWalkArea': WHATEVER THE INPUT: true; the input reads as it did. -/
def fnExactWalkAreaSpec : ChangeSpec := { name := "fnExactWalkArea", fn := fun _ => fun
  | [d1, d2] => { results := [.lit (.bool true)], args := [d1, d2] }
  | _ => none }
def fnExactWalkAreaRow : OpenClaim := { program := "ytdhppajfdcfikaa", sum := "fe3cba340b9ecf46df5fcde3f952202a484de83d8b15c3d8cb9d401c4842b1a8", func := "loop.example/g03303/laws.FnExactWalkArea", spec := "fnExactWalkArea", unfollowed := true, recurses := true, apart := false }
def FnExactWalkAreaSaid : Prop := fnExactWalkAreaRow.holds Try.pinned (OpenSpec.ofChange fnExactWalkAreaSpec)

/-- ITS FALSE NEIGHBOUR: 'it returns false'. Refute it at one input. -/
def fnExactWalkAreaWrong : ChangeSpec := { name := "fnExactWalkArea", fn := fun _ => fun
  | [d1, d2] => { results := [.lit (.bool false)], args := [d1, d2] }
  | _ => none }
def FnExactWalkAreaWrongFalsely : Prop := fnExactWalkAreaRow.holds Try.pinned (OpenSpec.ofChange fnExactWalkAreaWrong)

/-- 'laws.FnExactWalkOf': WHATEVER THE INPUT: true; the input reads as it did. -/
def fnExactWalkOfSpec : ChangeSpec := { name := "fnExactWalkOf", fn := fun _ => fun
  | [d1, d2] => { results := [.lit (.bool true)], args := [d1, d2] }
  | _ => none }
def fnExactWalkOfRow : OpenClaim := { program := "ytdhppajfdcfikaa", sum := "fe3cba340b9ecf46df5fcde3f952202a484de83d8b15c3d8cb9d401c4842b1a8", func := "loop.example/g03303/laws.FnExactWalkOf", spec := "fnExactWalkOf", unfollowed := true, recurses := true, apart := false }
def FnExactWalkOfSaid : Prop := fnExactWalkOfRow.holds Try.pinned (OpenSpec.ofChange fnExactWalkOfSpec)

/-- ITS FALSE NEIGHBOUR: 'it returns false'. Refute it at one input. -/
def fnExactWalkOfWrong : ChangeSpec := { name := "fnExactWalkOf", fn := fun _ => fun
  | [d1, d2] => { results := [.lit (.bool false)], args := [d1, d2] }
  | _ => none }
def FnExactWalkOfWrongFalsely : Prop := fnExactWalkOfRow.holds Try.pinned (OpenSpec.ofChange fnExactWalkOfWrong)

/-- 'laws.FnWalks': WHATEVER THE INPUT: true; the input reads as it did. -/
def fnWalksSpec : ChangeSpec := { name := "fnWalks", fn := fun _ => fun
  | [d] => { results := [.lit (.bool true)], args := [d] }
  | _ => none }
def fnWalksRow : OpenClaim := { program := "ytdhppajfdcfikaa", sum := "fe3cba340b9ecf46df5fcde3f952202a484de83d8b15c3d8cb9d401c4842b1a8", func := "loop.example/g03303/laws.FnWalks", spec := "fnWalks", unfollowed := true, recurses := true, apart := false }
def FnWalksSaid : Prop := fnWalksRow.holds Try.pinned (OpenSpec.ofChange fnWalksSpec)

/-- ITS FALSE NEIGHBOUR: 'it returns false'. Refute it at one input. -/
def fnWalksWrong : ChangeSpec := { name := "fnWalks", fn := fun _ => fun
  | [d] => { results := [.lit (.bool false)], args := [d] }
  | _ => none }
def FnWalksWrongFalsely : Prop := fnWalksRow.holds Try.pinned (OpenSpec.ofChange fnWalksWrong)

/-- 'laws.FnExactTotalArea': WHATEVER THE INPUT: true; the input reads as it did. -/
def fnExactTotalAreaSpec : ChangeSpec := { name := "fnExactTotalArea", fn := fun _ => fun
  | [d] => { results := [.lit (.bool true)], args := [d] }
  | _ => none }
def fnExactTotalAreaRow : OpenClaim := { program := "ytdhppajfdcfikaa", sum := "fe3cba340b9ecf46df5fcde3f952202a484de83d8b15c3d8cb9d401c4842b1a8", func := "loop.example/g03303/laws.FnExactTotalArea", spec := "fnExactTotalArea", unfollowed := true, recurses := true, apart := false }
def FnExactTotalAreaSaid : Prop := fnExactTotalAreaRow.holds Try.pinned (OpenSpec.ofChange fnExactTotalAreaSpec)

/-- ITS FALSE NEIGHBOUR: 'it returns false'. Refute it at one input. -/
def fnExactTotalAreaWrong : ChangeSpec := { name := "fnExactTotalArea", fn := fun _ => fun
  | [d] => { results := [.lit (.bool false)], args := [d] }
  | _ => none }
def FnExactTotalAreaWrongFalsely : Prop := fnExactTotalAreaRow.holds Try.pinned (OpenSpec.ofChange fnExactTotalAreaWrong)

/-- 'laws.FnExactFacesOf': WHATEVER THE INPUT: true; the input reads as it did. -/
def fnExactFacesOfSpec : ChangeSpec := { name := "fnExactFacesOf", fn := fun _ => fun
  | [d] => { results := [.lit (.bool true)], args := [d] }
  | _ => none }
def fnExactFacesOfRow : OpenClaim := { program := "ytdhppajfdcfikaa", sum := "fe3cba340b9ecf46df5fcde3f952202a484de83d8b15c3d8cb9d401c4842b1a8", func := "loop.example/g03303/laws.FnExactFacesOf", spec := "fnExactFacesOf", unfollowed := true, recurses := true, apart := false }
def FnExactFacesOfSaid : Prop := fnExactFacesOfRow.holds Try.pinned (OpenSpec.ofChange fnExactFacesOfSpec)

/-- ITS FALSE NEIGHBOUR: 'it returns false'. Refute it at one input. -/
def fnExactFacesOfWrong : ChangeSpec := { name := "fnExactFacesOf", fn := fun _ => fun
  | [d] => { results := [.lit (.bool false)], args := [d] }
  | _ => none }
def FnExactFacesOfWrongFalsely : Prop := fnExactFacesOfRow.holds Try.pinned (OpenSpec.ofChange fnExactFacesOfWrong)

/-- 'laws.FnExactOuterFace': WHATEVER THE INPUT: true; the input reads as it did. -/
def fnExactOuterFaceSpec : ChangeSpec := { name := "fnExactOuterFace", fn := fun _ => fun
  | [d] => { results := [.lit (.bool true)], args := [d] }
  | _ => none }
def fnExactOuterFaceRow : OpenClaim := { program := "ytdhppajfdcfikaa", sum := "fe3cba340b9ecf46df5fcde3f952202a484de83d8b15c3d8cb9d401c4842b1a8", func := "loop.example/g03303/laws.FnExactOuterFace", spec := "fnExactOuterFace", unfollowed := true, recurses := true, apart := false }
def FnExactOuterFaceSaid : Prop := fnExactOuterFaceRow.holds Try.pinned (OpenSpec.ofChange fnExactOuterFaceSpec)

/-- ITS FALSE NEIGHBOUR: 'it returns false'. Refute it at one input. -/
def fnExactOuterFaceWrong : ChangeSpec := { name := "fnExactOuterFace", fn := fun _ => fun
  | [d] => { results := [.lit (.bool false)], args := [d] }
  | _ => none }
def FnExactOuterFaceWrongFalsely : Prop := fnExactOuterFaceRow.holds Try.pinned (OpenSpec.ofChange fnExactOuterFaceWrong)

/-- 'laws.FnExactFaceAt': WHATEVER THE INPUT: true; the input reads as it did. -/
def fnExactFaceAtSpec : ChangeSpec := { name := "fnExactFaceAt", fn := fun _ => fun
  | [d1, d2] => { results := [.lit (.bool true)], args := [d1, d2] }
  | _ => none }
def fnExactFaceAtRow : OpenClaim := { program := "ytdhppajfdcfikaa", sum := "fe3cba340b9ecf46df5fcde3f952202a484de83d8b15c3d8cb9d401c4842b1a8", func := "loop.example/g03303/laws.FnExactFaceAt", spec := "fnExactFaceAt", unfollowed := true, recurses := true, apart := false }
def FnExactFaceAtSaid : Prop := fnExactFaceAtRow.holds Try.pinned (OpenSpec.ofChange fnExactFaceAtSpec)

/-- ITS FALSE NEIGHBOUR: 'it returns false'. Refute it at one input. -/
def fnExactFaceAtWrong : ChangeSpec := { name := "fnExactFaceAt", fn := fun _ => fun
  | [d1, d2] => { results := [.lit (.bool false)], args := [d1, d2] }
  | _ => none }
def FnExactFaceAtWrongFalsely : Prop := fnExactFaceAtRow.holds Try.pinned (OpenSpec.ofChange fnExactFaceAtWrong)

/-- 'laws.FnExactAreaOf': WHATEVER THE INPUT: true; the input reads as it did. -/
def fnExactAreaOfSpec : ChangeSpec := { name := "fnExactAreaOf", fn := fun _ => fun
  | [d1, d2] => { results := [.lit (.bool true)], args := [d1, d2] }
  | _ => none }
def fnExactAreaOfRow : OpenClaim := { program := "ytdhppajfdcfikaa", sum := "fe3cba340b9ecf46df5fcde3f952202a484de83d8b15c3d8cb9d401c4842b1a8", func := "loop.example/g03303/laws.FnExactAreaOf", spec := "fnExactAreaOf", unfollowed := true, recurses := true, apart := false }
def FnExactAreaOfSaid : Prop := fnExactAreaOfRow.holds Try.pinned (OpenSpec.ofChange fnExactAreaOfSpec)

/-- ITS FALSE NEIGHBOUR: 'it returns false'. Refute it at one input. -/
def fnExactAreaOfWrong : ChangeSpec := { name := "fnExactAreaOf", fn := fun _ => fun
  | [d1, d2] => { results := [.lit (.bool false)], args := [d1, d2] }
  | _ => none }
def FnExactAreaOfWrongFalsely : Prop := fnExactAreaOfRow.holds Try.pinned (OpenSpec.ofChange fnExactAreaOfWrong)

/-- 'laws.FnFaces': WHATEVER THE INPUT: true; the input reads as it did. -/
def fnFacesSpec : ChangeSpec := { name := "fnFaces", fn := fun _ => fun
  | [d] => { results := [.lit (.bool true)], args := [d] }
  | _ => none }
def fnFacesRow : OpenClaim := { program := "ytdhppajfdcfikaa", sum := "fe3cba340b9ecf46df5fcde3f952202a484de83d8b15c3d8cb9d401c4842b1a8", func := "loop.example/g03303/laws.FnFaces", spec := "fnFaces", unfollowed := true, recurses := true, apart := false }
def FnFacesSaid : Prop := fnFacesRow.holds Try.pinned (OpenSpec.ofChange fnFacesSpec)

/-- ITS FALSE NEIGHBOUR: 'it returns false'. Refute it at one input. -/
def fnFacesWrong : ChangeSpec := { name := "fnFaces", fn := fun _ => fun
  | [d] => { results := [.lit (.bool false)], args := [d] }
  | _ => none }
def FnFacesWrongFalsely : Prop := fnFacesRow.holds Try.pinned (OpenSpec.ofChange fnFacesWrong)

/- THE SECOND FORM. 'bulk': how many values and letters a reading holds, each counted each time it is reached (what is shared counts as often as it is met; a slice's spare places count too). A statement '..UptoSaid' is the law's where the arguments, and the package variables that the reading takes, are together of bulk at most 1048576: NARROWER than '..Said'. Prove '..Said' where nothing that the law and all that it calls make is longer than what came in: it says more and counts as full. Else prove '..UptoSaid'. A law counts once. -/
mutual
def uptoBulk {H : Type} : DataW H → Nat
  | .lit (.string bytes) => bytes.length + 1
  | .lit _ => 1
  | .nil => 1
  | .ptr d => uptoBulk d + 1
  | .slice elems spare => uptoBulkAll elems + uptoBulkAll spare + 1
  | .agg parts => uptoBulkAll parts + 1
  | .iface _ d => uptoBulk d + 1
  | .map entries => uptoBulkEntries entries + 1
  | .held _ => 1
def uptoBulkAll {H : Type} : List (DataW H) → Nat
  | [] => 0
  | d :: r => uptoBulk d + uptoBulkAll r
def uptoBulkEntries {H : Type} : List (Lit × DataW H) → Nat
  | [] => 0
  | x :: r => uptoBulkEntry x + uptoBulkEntries r
def uptoBulkEntry {H : Type} : Lit × DataW H → Nat
  | (.string bytes, d) => bytes.length + uptoBulk d + 1
  | (_, d) => uptoBulk d + 1
 end
def uptoSmall : (H : Type) → List (DataW H) → Bool := fun _ ds => decide (uptoBulkAll ds ≤ 1048576)
def OpenSpec.upto (s : _root_.Go.ChangeSpec) : _root_.Go.OpenSpec := { _root_.Go.OpenSpec.ofChange s with cond := some uptoSmall }

/-- 'laws.FnExactWalkLength', WHERE WHAT IT READS IS OF BULK AT MOST 1048576: true; the input reads as it did. -/
def fnExactWalkLengthUptoRow : OpenClaim := { program := "ytdhppajfdcfikaa", sum := "fe3cba340b9ecf46df5fcde3f952202a484de83d8b15c3d8cb9d401c4842b1a8", func := "loop.example/g03303/laws.FnExactWalkLength", spec := "fnExactWalkLength", unfollowed := true, recurses := true, apart := false, narrowed := true }
def FnExactWalkLengthUptoSaid : Prop := fnExactWalkLengthUptoRow.holds Try.pinned (OpenSpec.upto fnExactWalkLengthSpec)

/-- 'laws.FnExactSameWalk', WHERE WHAT IT READS IS OF BULK AT MOST 1048576: true; the input reads as it did. -/
def fnExactSameWalkUptoRow : OpenClaim := { program := "ytdhppajfdcfikaa", sum := "fe3cba340b9ecf46df5fcde3f952202a484de83d8b15c3d8cb9d401c4842b1a8", func := "loop.example/g03303/laws.FnExactSameWalk", spec := "fnExactSameWalk", unfollowed := true, recurses := true, apart := false, narrowed := true }
def FnExactSameWalkUptoSaid : Prop := fnExactSameWalkUptoRow.holds Try.pinned (OpenSpec.upto fnExactSameWalkSpec)

/-- 'laws.FnExactWalkArea', WHERE WHAT IT READS IS OF BULK AT MOST 1048576: true; the input reads as it did. -/
def fnExactWalkAreaUptoRow : OpenClaim := { program := "ytdhppajfdcfikaa", sum := "fe3cba340b9ecf46df5fcde3f952202a484de83d8b15c3d8cb9d401c4842b1a8", func := "loop.example/g03303/laws.FnExactWalkArea", spec := "fnExactWalkArea", unfollowed := true, recurses := true, apart := false, narrowed := true }
def FnExactWalkAreaUptoSaid : Prop := fnExactWalkAreaUptoRow.holds Try.pinned (OpenSpec.upto fnExactWalkAreaSpec)

/-- 'laws.FnExactWalkOf', WHERE WHAT IT READS IS OF BULK AT MOST 1048576: true; the input reads as it did. -/
def fnExactWalkOfUptoRow : OpenClaim := { program := "ytdhppajfdcfikaa", sum := "fe3cba340b9ecf46df5fcde3f952202a484de83d8b15c3d8cb9d401c4842b1a8", func := "loop.example/g03303/laws.FnExactWalkOf", spec := "fnExactWalkOf", unfollowed := true, recurses := true, apart := false, narrowed := true }
def FnExactWalkOfUptoSaid : Prop := fnExactWalkOfUptoRow.holds Try.pinned (OpenSpec.upto fnExactWalkOfSpec)

/-- 'laws.FnWalks', WHERE WHAT IT READS IS OF BULK AT MOST 1048576: true; the input reads as it did. -/
def fnWalksUptoRow : OpenClaim := { program := "ytdhppajfdcfikaa", sum := "fe3cba340b9ecf46df5fcde3f952202a484de83d8b15c3d8cb9d401c4842b1a8", func := "loop.example/g03303/laws.FnWalks", spec := "fnWalks", unfollowed := true, recurses := true, apart := false, narrowed := true }
def FnWalksUptoSaid : Prop := fnWalksUptoRow.holds Try.pinned (OpenSpec.upto fnWalksSpec)

/-- 'laws.FnExactTotalArea', WHERE WHAT IT READS IS OF BULK AT MOST 1048576: true; the input reads as it did. -/
def fnExactTotalAreaUptoRow : OpenClaim := { program := "ytdhppajfdcfikaa", sum := "fe3cba340b9ecf46df5fcde3f952202a484de83d8b15c3d8cb9d401c4842b1a8", func := "loop.example/g03303/laws.FnExactTotalArea", spec := "fnExactTotalArea", unfollowed := true, recurses := true, apart := false, narrowed := true }
def FnExactTotalAreaUptoSaid : Prop := fnExactTotalAreaUptoRow.holds Try.pinned (OpenSpec.upto fnExactTotalAreaSpec)

/-- 'laws.FnExactFacesOf', WHERE WHAT IT READS IS OF BULK AT MOST 1048576: true; the input reads as it did. -/
def fnExactFacesOfUptoRow : OpenClaim := { program := "ytdhppajfdcfikaa", sum := "fe3cba340b9ecf46df5fcde3f952202a484de83d8b15c3d8cb9d401c4842b1a8", func := "loop.example/g03303/laws.FnExactFacesOf", spec := "fnExactFacesOf", unfollowed := true, recurses := true, apart := false, narrowed := true }
def FnExactFacesOfUptoSaid : Prop := fnExactFacesOfUptoRow.holds Try.pinned (OpenSpec.upto fnExactFacesOfSpec)

/-- 'laws.FnExactOuterFace', WHERE WHAT IT READS IS OF BULK AT MOST 1048576: true; the input reads as it did. -/
def fnExactOuterFaceUptoRow : OpenClaim := { program := "ytdhppajfdcfikaa", sum := "fe3cba340b9ecf46df5fcde3f952202a484de83d8b15c3d8cb9d401c4842b1a8", func := "loop.example/g03303/laws.FnExactOuterFace", spec := "fnExactOuterFace", unfollowed := true, recurses := true, apart := false, narrowed := true }
def FnExactOuterFaceUptoSaid : Prop := fnExactOuterFaceUptoRow.holds Try.pinned (OpenSpec.upto fnExactOuterFaceSpec)

/-- 'laws.FnExactFaceAt', WHERE WHAT IT READS IS OF BULK AT MOST 1048576: true; the input reads as it did. -/
def fnExactFaceAtUptoRow : OpenClaim := { program := "ytdhppajfdcfikaa", sum := "fe3cba340b9ecf46df5fcde3f952202a484de83d8b15c3d8cb9d401c4842b1a8", func := "loop.example/g03303/laws.FnExactFaceAt", spec := "fnExactFaceAt", unfollowed := true, recurses := true, apart := false, narrowed := true }
def FnExactFaceAtUptoSaid : Prop := fnExactFaceAtUptoRow.holds Try.pinned (OpenSpec.upto fnExactFaceAtSpec)

/-- 'laws.FnExactAreaOf', WHERE WHAT IT READS IS OF BULK AT MOST 1048576: true; the input reads as it did. -/
def fnExactAreaOfUptoRow : OpenClaim := { program := "ytdhppajfdcfikaa", sum := "fe3cba340b9ecf46df5fcde3f952202a484de83d8b15c3d8cb9d401c4842b1a8", func := "loop.example/g03303/laws.FnExactAreaOf", spec := "fnExactAreaOf", unfollowed := true, recurses := true, apart := false, narrowed := true }
def FnExactAreaOfUptoSaid : Prop := fnExactAreaOfUptoRow.holds Try.pinned (OpenSpec.upto fnExactAreaOfSpec)

/-- 'laws.FnFaces', WHERE WHAT IT READS IS OF BULK AT MOST 1048576: true; the input reads as it did. -/
def fnFacesUptoRow : OpenClaim := { program := "ytdhppajfdcfikaa", sum := "fe3cba340b9ecf46df5fcde3f952202a484de83d8b15c3d8cb9d401c4842b1a8", func := "loop.example/g03303/laws.FnFaces", spec := "fnFaces", unfollowed := true, recurses := true, apart := false, narrowed := true }
def FnFacesUptoSaid : Prop := fnFacesUptoRow.holds Try.pinned (OpenSpec.upto fnFacesSpec)

end Rows
end Go.Proofs.Ytdhppajfdcfikaa

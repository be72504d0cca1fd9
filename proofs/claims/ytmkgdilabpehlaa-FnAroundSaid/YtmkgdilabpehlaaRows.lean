/-
  No cell of these rows narrows 'for every input' (looked for: loops, veiled, ifaces, maps, wideKeys, modest, calm, conditions, laid).
  DERIVED. THE GIVEN ROWS OF THIS SEAT. 10 by the template 'for every input the law returns true; each argument reads behind the call as it read before'; 0 by the template 'total and deterministic' (their statements: YtmkgdilabpehlaaTotals.lean).
  GIVEN WITH THE SEED: the statements are not yours to turn. If you find one false, say at which input.
  Laid BY PROGRAM, IN A SANDBOX (cutbox-rows.mjs): the forced cells as the released guide's own fill.sh prints them over the translation 21168c558e16b513… (all of the seat's roots in one cut). By AI agents, Wed Nov 11 2026. No macro, syntax, notation, axiom, sorry.
-/
import Derived.Test.YtmkgdilabpehlaaChecked
import GoSem.Claim
import GoSem.ClaimJoined
import GoSem.ClaimMapViews
import Derived.JoinedTies
import Derived.KernelRfl
namespace Go.Proofs.Ytmkgdilabpehlaa
/- THE CELL 'sum', in the pinned program and in every row, IS THE sha256 OF THE DUMP (.gsa) THAT YtmkgdilabpehlaaProg.lean LOADS. Nothing in Lean hashes anything: it is a label: what it is worth is what the hold of that sum in a sandbox is worth. -/
noncomputable def Try.pinned : Pinned := { name := "ytmkgdilabpehlaa", sum := "21168c558e16b513fafb1d26658e45d6293ce54b37ab6aa4d96c51a49d90fd42", checked := Try.checked }
namespace Rows
def none {H : Type} : Left H := { results := [], args := [] }

/-- 'laws.FnExactIsWhole': WHATEVER THE INPUT: true; the input reads as it did. -/
def fnExactIsWholeSpec : ChangeSpec := { name := "fnExactIsWhole", fn := fun _ => fun
  | [d] => { results := [.lit (.bool true)], args := [d] }
  | _ => none }
def fnExactIsWholeRow : OpenClaim := { program := "ytmkgdilabpehlaa", sum := "21168c558e16b513fafb1d26658e45d6293ce54b37ab6aa4d96c51a49d90fd42", func := "loop.example/g03303/laws.FnExactIsWhole", spec := "fnExactIsWhole", apart := false }
def FnExactIsWholeSaid : Prop := fnExactIsWholeRow.holds Try.pinned (OpenSpec.ofChange fnExactIsWholeSpec)

/-- ITS FALSE NEIGHBOUR: 'it returns false'. Refute it at one input. -/
def fnExactIsWholeWrong : ChangeSpec := { name := "fnExactIsWhole", fn := fun _ => fun
  | [d] => { results := [.lit (.bool false)], args := [d] }
  | _ => none }
def FnExactIsWholeWrongFalsely : Prop := fnExactIsWholeRow.holds Try.pinned (OpenSpec.ofChange fnExactIsWholeWrong)

/-- 'laws.FnExactCountParts': WHATEVER THE INPUT: true; the input reads as it did. -/
def fnExactCountPartsSpec : ChangeSpec := { name := "fnExactCountParts", fn := fun _ => fun
  | [d] => { results := [.lit (.bool true)], args := [d] }
  | _ => none }
def fnExactCountPartsRow : OpenClaim := { program := "ytmkgdilabpehlaa", sum := "21168c558e16b513fafb1d26658e45d6293ce54b37ab6aa4d96c51a49d90fd42", func := "loop.example/g03303/laws.FnExactCountParts", spec := "fnExactCountParts", apart := false }
def FnExactCountPartsSaid : Prop := fnExactCountPartsRow.holds Try.pinned (OpenSpec.ofChange fnExactCountPartsSpec)

/-- ITS FALSE NEIGHBOUR: 'it returns false'. Refute it at one input. -/
def fnExactCountPartsWrong : ChangeSpec := { name := "fnExactCountParts", fn := fun _ => fun
  | [d] => { results := [.lit (.bool false)], args := [d] }
  | _ => none }
def FnExactCountPartsWrongFalsely : Prop := fnExactCountPartsRow.holds Try.pinned (OpenSpec.ofChange fnExactCountPartsWrong)

/-- 'laws.FnExactCountFaces': WHATEVER THE INPUT: true; the input reads as it did. -/
def fnExactCountFacesSpec : ChangeSpec := { name := "fnExactCountFaces", fn := fun _ => fun
  | [d] => { results := [.lit (.bool true)], args := [d] }
  | _ => none }
def fnExactCountFacesRow : OpenClaim := { program := "ytmkgdilabpehlaa", sum := "21168c558e16b513fafb1d26658e45d6293ce54b37ab6aa4d96c51a49d90fd42", func := "loop.example/g03303/laws.FnExactCountFaces", spec := "fnExactCountFaces", apart := false }
def FnExactCountFacesSaid : Prop := fnExactCountFacesRow.holds Try.pinned (OpenSpec.ofChange fnExactCountFacesSpec)

/-- ITS FALSE NEIGHBOUR: 'it returns false'. Refute it at one input. -/
def fnExactCountFacesWrong : ChangeSpec := { name := "fnExactCountFaces", fn := fun _ => fun
  | [d] => { results := [.lit (.bool false)], args := [d] }
  | _ => none }
def FnExactCountFacesWrongFalsely : Prop := fnExactCountFacesRow.holds Try.pinned (OpenSpec.ofChange fnExactCountFacesWrong)

/-- 'laws.FnExactDropLead': WHATEVER THE INPUT: true; the input reads as it did. -/
def fnExactDropLeadSpec : ChangeSpec := { name := "fnExactDropLead", fn := fun _ => fun
  | [d1, d2] => { results := [.lit (.bool true)], args := [d1, d2] }
  | _ => none }
def fnExactDropLeadRow : OpenClaim := { program := "ytmkgdilabpehlaa", sum := "21168c558e16b513fafb1d26658e45d6293ce54b37ab6aa4d96c51a49d90fd42", func := "loop.example/g03303/laws.FnExactDropLead", spec := "fnExactDropLead", apart := false }
def FnExactDropLeadSaid : Prop := fnExactDropLeadRow.holds Try.pinned (OpenSpec.ofChange fnExactDropLeadSpec)

/-- ITS FALSE NEIGHBOUR: 'it returns false'. Refute it at one input. -/
def fnExactDropLeadWrong : ChangeSpec := { name := "fnExactDropLead", fn := fun _ => fun
  | [d1, d2] => { results := [.lit (.bool false)], args := [d1, d2] }
  | _ => none }
def FnExactDropLeadWrongFalsely : Prop := fnExactDropLeadRow.holds Try.pinned (OpenSpec.ofChange fnExactDropLeadWrong)

/-- 'laws.FnExactAddLead': WHATEVER THE INPUT: true; the input reads as it did. -/
def fnExactAddLeadSpec : ChangeSpec := { name := "fnExactAddLead", fn := fun _ => fun
  | [d1, d2, d3] => { results := [.lit (.bool true)], args := [d1, d2, d3] }
  | _ => none }
def fnExactAddLeadRow : OpenClaim := { program := "ytmkgdilabpehlaa", sum := "21168c558e16b513fafb1d26658e45d6293ce54b37ab6aa4d96c51a49d90fd42", func := "loop.example/g03303/laws.FnExactAddLead", spec := "fnExactAddLead", apart := false }
def FnExactAddLeadSaid : Prop := fnExactAddLeadRow.holds Try.pinned (OpenSpec.ofChange fnExactAddLeadSpec)

/-- ITS FALSE NEIGHBOUR: 'it returns false'. Refute it at one input. -/
def fnExactAddLeadWrong : ChangeSpec := { name := "fnExactAddLead", fn := fun _ => fun
  | [d1, d2, d3] => { results := [.lit (.bool false)], args := [d1, d2, d3] }
  | _ => none }
def FnExactAddLeadWrongFalsely : Prop := fnExactAddLeadRow.holds Try.pinned (OpenSpec.ofChange fnExactAddLeadWrong)

/-- 'laws.FnExactLastAround': WHATEVER THE INPUT: true; the input reads as it did. -/
def fnExactLastAroundSpec : ChangeSpec := { name := "fnExactLastAround", fn := fun _ => fun
  | [d1, d2] => { results := [.lit (.bool true)], args := [d1, d2] }
  | _ => none }
def fnExactLastAroundRow : OpenClaim := { program := "ytmkgdilabpehlaa", sum := "21168c558e16b513fafb1d26658e45d6293ce54b37ab6aa4d96c51a49d90fd42", func := "loop.example/g03303/laws.FnExactLastAround", spec := "fnExactLastAround", unfollowed := true, recurses := true, apart := false }
def FnExactLastAroundSaid : Prop := fnExactLastAroundRow.holds Try.pinned (OpenSpec.ofChange fnExactLastAroundSpec)

/-- ITS FALSE NEIGHBOUR: 'it returns false'. Refute it at one input. -/
def fnExactLastAroundWrong : ChangeSpec := { name := "fnExactLastAround", fn := fun _ => fun
  | [d1, d2] => { results := [.lit (.bool false)], args := [d1, d2] }
  | _ => none }
def FnExactLastAroundWrongFalsely : Prop := fnExactLastAroundRow.holds Try.pinned (OpenSpec.ofChange fnExactLastAroundWrong)

/-- 'laws.FnExactNextAround': WHATEVER THE INPUT: true; the input reads as it did. -/
def fnExactNextAroundSpec : ChangeSpec := { name := "fnExactNextAround", fn := fun _ => fun
  | [d1, d2] => { results := [.lit (.bool true)], args := [d1, d2] }
  | _ => none }
def fnExactNextAroundRow : OpenClaim := { program := "ytmkgdilabpehlaa", sum := "21168c558e16b513fafb1d26658e45d6293ce54b37ab6aa4d96c51a49d90fd42", func := "loop.example/g03303/laws.FnExactNextAround", spec := "fnExactNextAround", unfollowed := true, recurses := true, apart := false }
def FnExactNextAroundSaid : Prop := fnExactNextAroundRow.holds Try.pinned (OpenSpec.ofChange fnExactNextAroundSpec)

/-- ITS FALSE NEIGHBOUR: 'it returns false'. Refute it at one input. -/
def fnExactNextAroundWrong : ChangeSpec := { name := "fnExactNextAround", fn := fun _ => fun
  | [d1, d2] => { results := [.lit (.bool false)], args := [d1, d2] }
  | _ => none }
def FnExactNextAroundWrongFalsely : Prop := fnExactNextAroundRow.holds Try.pinned (OpenSpec.ofChange fnExactNextAroundWrong)

/-- 'laws.FnExactNextDart': WHATEVER THE INPUT: true; the input reads as it did. -/
def fnExactNextDartSpec : ChangeSpec := { name := "fnExactNextDart", fn := fun _ => fun
  | [d1, d2] => { results := [.lit (.bool true)], args := [d1, d2] }
  | _ => none }
def fnExactNextDartRow : OpenClaim := { program := "ytmkgdilabpehlaa", sum := "21168c558e16b513fafb1d26658e45d6293ce54b37ab6aa4d96c51a49d90fd42", func := "loop.example/g03303/laws.FnExactNextDart", spec := "fnExactNextDart", unfollowed := true, recurses := true, apart := false }
def FnExactNextDartSaid : Prop := fnExactNextDartRow.holds Try.pinned (OpenSpec.ofChange fnExactNextDartSpec)

/-- ITS FALSE NEIGHBOUR: 'it returns false'. Refute it at one input. -/
def fnExactNextDartWrong : ChangeSpec := { name := "fnExactNextDart", fn := fun _ => fun
  | [d1, d2] => { results := [.lit (.bool false)], args := [d1, d2] }
  | _ => none }
def FnExactNextDartWrongFalsely : Prop := fnExactNextDartRow.holds Try.pinned (OpenSpec.ofChange fnExactNextDartWrong)

/-- 'laws.FnExactAroundNode': WHATEVER THE INPUT: true; the input reads as it did. -/
def fnExactAroundNodeSpec : ChangeSpec := { name := "fnExactAroundNode", fn := fun _ => fun
  | [d1, d2] => { results := [.lit (.bool true)], args := [d1, d2] }
  | _ => none }
def fnExactAroundNodeRow : OpenClaim := { program := "ytmkgdilabpehlaa", sum := "21168c558e16b513fafb1d26658e45d6293ce54b37ab6aa4d96c51a49d90fd42", func := "loop.example/g03303/laws.FnExactAroundNode", spec := "fnExactAroundNode", unfollowed := true, recurses := true, apart := false }
def FnExactAroundNodeSaid : Prop := fnExactAroundNodeRow.holds Try.pinned (OpenSpec.ofChange fnExactAroundNodeSpec)

/-- ITS FALSE NEIGHBOUR: 'it returns false'. Refute it at one input. -/
def fnExactAroundNodeWrong : ChangeSpec := { name := "fnExactAroundNode", fn := fun _ => fun
  | [d1, d2] => { results := [.lit (.bool false)], args := [d1, d2] }
  | _ => none }
def FnExactAroundNodeWrongFalsely : Prop := fnExactAroundNodeRow.holds Try.pinned (OpenSpec.ofChange fnExactAroundNodeWrong)

/-- 'laws.FnAround': WHATEVER THE INPUT: true; the input reads as it did. -/
def fnAroundSpec : ChangeSpec := { name := "fnAround", fn := fun _ => fun
  | [d] => { results := [.lit (.bool true)], args := [d] }
  | _ => none }
def fnAroundRow : OpenClaim := { program := "ytmkgdilabpehlaa", sum := "21168c558e16b513fafb1d26658e45d6293ce54b37ab6aa4d96c51a49d90fd42", func := "loop.example/g03303/laws.FnAround", spec := "fnAround", unfollowed := true, recurses := true, apart := false }
def FnAroundSaid : Prop := fnAroundRow.holds Try.pinned (OpenSpec.ofChange fnAroundSpec)

/-- ITS FALSE NEIGHBOUR: 'it returns false'. Refute it at one input. -/
def fnAroundWrong : ChangeSpec := { name := "fnAround", fn := fun _ => fun
  | [d] => { results := [.lit (.bool false)], args := [d] }
  | _ => none }
def FnAroundWrongFalsely : Prop := fnAroundRow.holds Try.pinned (OpenSpec.ofChange fnAroundWrong)

/- THE SECOND FORM. 'bulk': how many values and letters a reading holds, each counted each time it is reached (what is shared counts as often as it is met; a slice's spare places count too). A statement '..UptoSaid' is the law's where the arguments, and the package variables that the reading takes, are together of bulk at most 1048576: NARROWER than '..Said'. Prove '..Said' where nothing that the law and all that it calls make is longer than what came in: it says more and counts as full. Else prove '..UptoSaid'. A law counts once. -/
mutual
def uptoBulk {H : Type} : DataW H → Nat
  | .lit (.string bytes) => bytes.length + 1
  | .lit _ => 1
  | .nil => 1
  | .ptr d => uptoBulk d + 1
  | .slice elems spare => uptoBulkAll elems + uptoBulkAll spare + 1
  | .agg parts => uptoBulkAll parts + 1
  | .iface _ d => uptoBulk d + 1
  | .map entries => uptoBulkEntries entries + 1
  | .held _ => 1
def uptoBulkAll {H : Type} : List (DataW H) → Nat
  | [] => 0
  | d :: r => uptoBulk d + uptoBulkAll r
def uptoBulkEntries {H : Type} : List (Lit × DataW H) → Nat
  | [] => 0
  | x :: r => uptoBulkEntry x + uptoBulkEntries r
def uptoBulkEntry {H : Type} : Lit × DataW H → Nat
  | (.string bytes, d) => bytes.length + uptoBulk d + 1
  | (_, d) => uptoBulk d + 1
 end
def uptoSmall : (H : Type) → List (DataW H) → Bool := fun _ ds => decide (uptoBulkAll ds ≤ 1048576)
def OpenSpec.upto (s : _root_.Go.ChangeSpec) : _root_.Go.OpenSpec := { _root_.Go.OpenSpec.ofChange s with cond := some uptoSmall }

/-- 'laws.FnExactIsWhole', WHERE WHAT IT READS IS OF BULK AT MOST 1048576: true; the input reads as it did. -/
def fnExactIsWholeUptoRow : OpenClaim := { program := "ytmkgdilabpehlaa", sum := "21168c558e16b513fafb1d26658e45d6293ce54b37ab6aa4d96c51a49d90fd42", func := "loop.example/g03303/laws.FnExactIsWhole", spec := "fnExactIsWhole", apart := false, narrowed := true }
def FnExactIsWholeUptoSaid : Prop := fnExactIsWholeUptoRow.holds Try.pinned (OpenSpec.upto fnExactIsWholeSpec)

/-- 'laws.FnExactCountParts', WHERE WHAT IT READS IS OF BULK AT MOST 1048576: true; the input reads as it did. -/
def fnExactCountPartsUptoRow : OpenClaim := { program := "ytmkgdilabpehlaa", sum := "21168c558e16b513fafb1d26658e45d6293ce54b37ab6aa4d96c51a49d90fd42", func := "loop.example/g03303/laws.FnExactCountParts", spec := "fnExactCountParts", apart := false, narrowed := true }
def FnExactCountPartsUptoSaid : Prop := fnExactCountPartsUptoRow.holds Try.pinned (OpenSpec.upto fnExactCountPartsSpec)

/-- 'laws.FnExactCountFaces', WHERE WHAT IT READS IS OF BULK AT MOST 1048576: true; the input reads as it did. -/
def fnExactCountFacesUptoRow : OpenClaim := { program := "ytmkgdilabpehlaa", sum := "21168c558e16b513fafb1d26658e45d6293ce54b37ab6aa4d96c51a49d90fd42", func := "loop.example/g03303/laws.FnExactCountFaces", spec := "fnExactCountFaces", apart := false, narrowed := true }
def FnExactCountFacesUptoSaid : Prop := fnExactCountFacesUptoRow.holds Try.pinned (OpenSpec.upto fnExactCountFacesSpec)

/-- 'laws.FnExactDropLead', WHERE WHAT IT READS IS OF BULK AT MOST 1048576: true; the input reads as it did. -/
def fnExactDropLeadUptoRow : OpenClaim := { program := "ytmkgdilabpehlaa", sum := "21168c558e16b513fafb1d26658e45d6293ce54b37ab6aa4d96c51a49d90fd42", func := "loop.example/g03303/laws.FnExactDropLead", spec := "fnExactDropLead", apart := false, narrowed := true }
def FnExactDropLeadUptoSaid : Prop := fnExactDropLeadUptoRow.holds Try.pinned (OpenSpec.upto fnExactDropLeadSpec)

/-- 'laws.FnExactAddLead', WHERE WHAT IT READS IS OF BULK AT MOST 1048576: true; the input reads as it did. -/
def fnExactAddLeadUptoRow : OpenClaim := { program := "ytmkgdilabpehlaa", sum := "21168c558e16b513fafb1d26658e45d6293ce54b37ab6aa4d96c51a49d90fd42", func := "loop.example/g03303/laws.FnExactAddLead", spec := "fnExactAddLead", apart := false, narrowed := true }
def FnExactAddLeadUptoSaid : Prop := fnExactAddLeadUptoRow.holds Try.pinned (OpenSpec.upto fnExactAddLeadSpec)

/-- 'laws.FnExactLastAround', WHERE WHAT IT READS IS OF BULK AT MOST 1048576: true; the input reads as it did. -/
def fnExactLastAroundUptoRow : OpenClaim := { program := "ytmkgdilabpehlaa", sum := "21168c558e16b513fafb1d26658e45d6293ce54b37ab6aa4d96c51a49d90fd42", func := "loop.example/g03303/laws.FnExactLastAround", spec := "fnExactLastAround", unfollowed := true, recurses := true, apart := false, narrowed := true }
def FnExactLastAroundUptoSaid : Prop := fnExactLastAroundUptoRow.holds Try.pinned (OpenSpec.upto fnExactLastAroundSpec)

/-- 'laws.FnExactNextAround', WHERE WHAT IT READS IS OF BULK AT MOST 1048576: true; the input reads as it did. -/
def fnExactNextAroundUptoRow : OpenClaim := { program := "ytmkgdilabpehlaa", sum := "21168c558e16b513fafb1d26658e45d6293ce54b37ab6aa4d96c51a49d90fd42", func := "loop.example/g03303/laws.FnExactNextAround", spec := "fnExactNextAround", unfollowed := true, recurses := true, apart := false, narrowed := true }
def FnExactNextAroundUptoSaid : Prop := fnExactNextAroundUptoRow.holds Try.pinned (OpenSpec.upto fnExactNextAroundSpec)

/-- 'laws.FnExactNextDart', WHERE WHAT IT READS IS OF BULK AT MOST 1048576: true; the input reads as it did. -/
def fnExactNextDartUptoRow : OpenClaim := { program := "ytmkgdilabpehlaa", sum := "21168c558e16b513fafb1d26658e45d6293ce54b37ab6aa4d96c51a49d90fd42", func := "loop.example/g03303/laws.FnExactNextDart", spec := "fnExactNextDart", unfollowed := true, recurses := true, apart := false, narrowed := true }
def FnExactNextDartUptoSaid : Prop := fnExactNextDartUptoRow.holds Try.pinned (OpenSpec.upto fnExactNextDartSpec)

/-- 'laws.FnExactAroundNode', WHERE WHAT IT READS IS OF BULK AT MOST 1048576: true; the input reads as it did. -/
def fnExactAroundNodeUptoRow : OpenClaim := { program := "ytmkgdilabpehlaa", sum := "21168c558e16b513fafb1d26658e45d6293ce54b37ab6aa4d96c51a49d90fd42", func := "loop.example/g03303/laws.FnExactAroundNode", spec := "fnExactAroundNode", unfollowed := true, recurses := true, apart := false, narrowed := true }
def FnExactAroundNodeUptoSaid : Prop := fnExactAroundNodeUptoRow.holds Try.pinned (OpenSpec.upto fnExactAroundNodeSpec)

/-- 'laws.FnAround', WHERE WHAT IT READS IS OF BULK AT MOST 1048576: true; the input reads as it did. -/
def fnAroundUptoRow : OpenClaim := { program := "ytmkgdilabpehlaa", sum := "21168c558e16b513fafb1d26658e45d6293ce54b37ab6aa4d96c51a49d90fd42", func := "loop.example/g03303/laws.FnAround", spec := "fnAround", unfollowed := true, recurses := true, apart := false, narrowed := true }
def FnAroundUptoSaid : Prop := fnAroundUptoRow.holds Try.pinned (OpenSpec.upto fnAroundSpec)

end Rows
end Go.Proofs.Ytmkgdilabpehlaa

/-
  No cell of these rows narrows 'for every input' (looked for: loops, veiled, ifaces, maps, wideKeys, modest, calm, conditions, laid).
  DERIVED. THE GIVEN ROWS OF THIS SEAT. 12 by the template 'for every input the law returns true; each argument reads behind the call as it read before'; 0 by the template 'total and deterministic' (their statements: YthghbpklabdghaaTotals.lean).
  GIVEN WITH THE SEED: the statements are not yours to turn. If you find one false, say at which input.
  Laid BY PROGRAM, IN A SANDBOX (cutbox-rows.mjs): the forced cells as the released guide's own fill.sh prints them over the translation a121c06b983f4ade… (all of the seat's roots in one cut). By AI agents, Wed Nov 11 2026. No macro, syntax, notation, axiom, sorry.
-/
import Derived.Test.YthghbpklabdghaaChecked
import GoSem.Claim
import GoSem.ClaimJoined
import GoSem.ClaimMapViews
import Derived.JoinedTies
import Derived.KernelRfl
namespace Go.Proofs.Ythghbpklabdghaa
/- THE CELL 'sum', in the pinned program and in every row, IS THE sha256 OF THE DUMP (.gsa) THAT YthghbpklabdghaaProg.lean LOADS. Nothing in Lean hashes anything: it is a label: what it is worth is what the hold of that sum in a sandbox is worth. -/
noncomputable def Try.pinned : Pinned := { name := "ythghbpklabdghaa", sum := "a121c06b983f4ade904132efe2caf4d9751c84421feed66ece6680ee4aed55e2", checked := Try.checked }
namespace Rows
def none {H : Type} : Left H := { results := [], args := [] }

/-- 'laws.FnExactSampleWindow': WHATEVER THE INPUT: true; the input reads as it did. -/
def fnExactSampleWindowSpec : ChangeSpec := { name := "fnExactSampleWindow", fn := fun _ => fun
  | [] => { results := [.lit (.bool true)], args := [] }
  | _ => none }
def fnExactSampleWindowRow : OpenClaim := { program := "ythghbpklabdghaa", sum := "a121c06b983f4ade904132efe2caf4d9751c84421feed66ece6680ee4aed55e2", func := "loop.example/g03303/laws.FnExactSampleWindow", spec := "fnExactSampleWindow", apart := false }
def FnExactSampleWindowSaid : Prop := fnExactSampleWindowRow.holds Try.pinned (OpenSpec.ofChange fnExactSampleWindowSpec)

/-- ITS FALSE NEIGHBOUR: 'it returns false'. Refute it at one input. -/
def fnExactSampleWindowWrong : ChangeSpec := { name := "fnExactSampleWindow", fn := fun _ => fun
  | [] => { results := [.lit (.bool false)], args := [] }
  | _ => none }
def FnExactSampleWindowWrongFalsely : Prop := fnExactSampleWindowRow.holds Try.pinned (OpenSpec.ofChange fnExactSampleWindowWrong)

/-- 'laws.FnExactLeadOk': WHATEVER THE INPUT: true; the input reads as it did. -/
def fnExactLeadOkSpec : ChangeSpec := { name := "fnExactLeadOk", fn := fun _ => fun
  | [d1, d2] => { results := [.lit (.bool true)], args := [d1, d2] }
  | _ => none }
def fnExactLeadOkRow : OpenClaim := { program := "ythghbpklabdghaa", sum := "a121c06b983f4ade904132efe2caf4d9751c84421feed66ece6680ee4aed55e2", func := "loop.example/g03303/laws.FnExactLeadOk", spec := "fnExactLeadOk", apart := false }
def FnExactLeadOkSaid : Prop := fnExactLeadOkRow.holds Try.pinned (OpenSpec.ofChange fnExactLeadOkSpec)

/-- ITS FALSE NEIGHBOUR: 'it returns false'. Refute it at one input. -/
def fnExactLeadOkWrong : ChangeSpec := { name := "fnExactLeadOk", fn := fun _ => fun
  | [d1, d2] => { results := [.lit (.bool false)], args := [d1, d2] }
  | _ => none }
def FnExactLeadOkWrongFalsely : Prop := fnExactLeadOkRow.holds Try.pinned (OpenSpec.ofChange fnExactLeadOkWrong)

/-- 'laws.FnExactIsOnLead': WHATEVER THE INPUT: true; the input reads as it did. -/
def fnExactIsOnLeadSpec : ChangeSpec := { name := "fnExactIsOnLead", fn := fun _ => fun
  | [d1, d2, d3] => { results := [.lit (.bool true)], args := [d1, d2, d3] }
  | _ => none }
def fnExactIsOnLeadRow : OpenClaim := { program := "ythghbpklabdghaa", sum := "a121c06b983f4ade904132efe2caf4d9751c84421feed66ece6680ee4aed55e2", func := "loop.example/g03303/laws.FnExactIsOnLead", spec := "fnExactIsOnLead", apart := false }
def FnExactIsOnLeadSaid : Prop := fnExactIsOnLeadRow.holds Try.pinned (OpenSpec.ofChange fnExactIsOnLeadSpec)

/-- ITS FALSE NEIGHBOUR: 'it returns false'. Refute it at one input. -/
def fnExactIsOnLeadWrong : ChangeSpec := { name := "fnExactIsOnLead", fn := fun _ => fun
  | [d1, d2, d3] => { results := [.lit (.bool false)], args := [d1, d2, d3] }
  | _ => none }
def FnExactIsOnLeadWrongFalsely : Prop := fnExactIsOnLeadRow.holds Try.pinned (OpenSpec.ofChange fnExactIsOnLeadWrong)

/-- 'laws.FnExactDoCross': WHATEVER THE INPUT: true; the input reads as it did. -/
def fnExactDoCrossSpec : ChangeSpec := { name := "fnExactDoCross", fn := fun _ => fun
  | [d1, d2, d3] => { results := [.lit (.bool true)], args := [d1, d2, d3] }
  | _ => none }
def fnExactDoCrossRow : OpenClaim := { program := "ythghbpklabdghaa", sum := "a121c06b983f4ade904132efe2caf4d9751c84421feed66ece6680ee4aed55e2", func := "loop.example/g03303/laws.FnExactDoCross", spec := "fnExactDoCross", apart := false }
def FnExactDoCrossSaid : Prop := fnExactDoCrossRow.holds Try.pinned (OpenSpec.ofChange fnExactDoCrossSpec)

/-- ITS FALSE NEIGHBOUR: 'it returns false'. Refute it at one input. -/
def fnExactDoCrossWrong : ChangeSpec := { name := "fnExactDoCross", fn := fun _ => fun
  | [d1, d2, d3] => { results := [.lit (.bool false)], args := [d1, d2, d3] }
  | _ => none }
def FnExactDoCrossWrongFalsely : Prop := fnExactDoCrossRow.holds Try.pinned (OpenSpec.ofChange fnExactDoCrossWrong)

/-- 'laws.FnExactWindowOk': WHATEVER THE INPUT: true; the input reads as it did. -/
def fnExactWindowOkSpec : ChangeSpec := { name := "fnExactWindowOk", fn := fun _ => fun
  | [d] => { results := [.lit (.bool true)], args := [d] }
  | _ => none }
def fnExactWindowOkRow : OpenClaim := { program := "ythghbpklabdghaa", sum := "a121c06b983f4ade904132efe2caf4d9751c84421feed66ece6680ee4aed55e2", func := "loop.example/g03303/laws.FnExactWindowOk", spec := "fnExactWindowOk", apart := false }
def FnExactWindowOkSaid : Prop := fnExactWindowOkRow.holds Try.pinned (OpenSpec.ofChange fnExactWindowOkSpec)

/-- ITS FALSE NEIGHBOUR: 'it returns false'. Refute it at one input. -/
def fnExactWindowOkWrong : ChangeSpec := { name := "fnExactWindowOk", fn := fun _ => fun
  | [d] => { results := [.lit (.bool false)], args := [d] }
  | _ => none }
def FnExactWindowOkWrongFalsely : Prop := fnExactWindowOkRow.holds Try.pinned (OpenSpec.ofChange fnExactWindowOkWrong)

/-- 'laws.FnExactLeadBetween': WHATEVER THE INPUT: true; the input reads as it did. -/
def fnExactLeadBetweenSpec : ChangeSpec := { name := "fnExactLeadBetween", fn := fun _ => fun
  | [d1, d2, d3] => { results := [.lit (.bool true)], args := [d1, d2, d3] }
  | _ => none }
def fnExactLeadBetweenRow : OpenClaim := { program := "ythghbpklabdghaa", sum := "a121c06b983f4ade904132efe2caf4d9751c84421feed66ece6680ee4aed55e2", func := "loop.example/g03303/laws.FnExactLeadBetween", spec := "fnExactLeadBetween", apart := false }
def FnExactLeadBetweenSaid : Prop := fnExactLeadBetweenRow.holds Try.pinned (OpenSpec.ofChange fnExactLeadBetweenSpec)

/-- ITS FALSE NEIGHBOUR: 'it returns false'. Refute it at one input. -/
def fnExactLeadBetweenWrong : ChangeSpec := { name := "fnExactLeadBetween", fn := fun _ => fun
  | [d1, d2, d3] => { results := [.lit (.bool false)], args := [d1, d2, d3] }
  | _ => none }
def FnExactLeadBetweenWrongFalsely : Prop := fnExactLeadBetweenRow.holds Try.pinned (OpenSpec.ofChange fnExactLeadBetweenWrong)

/-- 'laws.FnExactDartFrom': WHATEVER THE INPUT: true; the input reads as it did. -/
def fnExactDartFromSpec : ChangeSpec := { name := "fnExactDartFrom", fn := fun _ => fun
  | [d1, d2] => { results := [.lit (.bool true)], args := [d1, d2] }
  | _ => none }
def fnExactDartFromRow : OpenClaim := { program := "ythghbpklabdghaa", sum := "a121c06b983f4ade904132efe2caf4d9751c84421feed66ece6680ee4aed55e2", func := "loop.example/g03303/laws.FnExactDartFrom", spec := "fnExactDartFrom", apart := false }
def FnExactDartFromSaid : Prop := fnExactDartFromRow.holds Try.pinned (OpenSpec.ofChange fnExactDartFromSpec)

/-- ITS FALSE NEIGHBOUR: 'it returns false'. Refute it at one input. -/
def fnExactDartFromWrong : ChangeSpec := { name := "fnExactDartFrom", fn := fun _ => fun
  | [d1, d2] => { results := [.lit (.bool false)], args := [d1, d2] }
  | _ => none }
def FnExactDartFromWrongFalsely : Prop := fnExactDartFromRow.holds Try.pinned (OpenSpec.ofChange fnExactDartFromWrong)

/-- 'laws.FnExactDartTo': WHATEVER THE INPUT: true; the input reads as it did. -/
def fnExactDartToSpec : ChangeSpec := { name := "fnExactDartTo", fn := fun _ => fun
  | [d1, d2] => { results := [.lit (.bool true)], args := [d1, d2] }
  | _ => none }
def fnExactDartToRow : OpenClaim := { program := "ythghbpklabdghaa", sum := "a121c06b983f4ade904132efe2caf4d9751c84421feed66ece6680ee4aed55e2", func := "loop.example/g03303/laws.FnExactDartTo", spec := "fnExactDartTo", apart := false }
def FnExactDartToSaid : Prop := fnExactDartToRow.holds Try.pinned (OpenSpec.ofChange fnExactDartToSpec)

/-- ITS FALSE NEIGHBOUR: 'it returns false'. Refute it at one input. -/
def fnExactDartToWrong : ChangeSpec := { name := "fnExactDartTo", fn := fun _ => fun
  | [d1, d2] => { results := [.lit (.bool false)], args := [d1, d2] }
  | _ => none }
def FnExactDartToWrongFalsely : Prop := fnExactDartToRow.holds Try.pinned (OpenSpec.ofChange fnExactDartToWrong)

/-- 'laws.FnExactDartBetween': WHATEVER THE INPUT: true; the input reads as it did. -/
def fnExactDartBetweenSpec : ChangeSpec := { name := "fnExactDartBetween", fn := fun _ => fun
  | [d1, d2, d3] => { results := [.lit (.bool true)], args := [d1, d2, d3] }
  | _ => none }
def fnExactDartBetweenRow : OpenClaim := { program := "ythghbpklabdghaa", sum := "a121c06b983f4ade904132efe2caf4d9751c84421feed66ece6680ee4aed55e2", func := "loop.example/g03303/laws.FnExactDartBetween", spec := "fnExactDartBetween", apart := false }
def FnExactDartBetweenSaid : Prop := fnExactDartBetweenRow.holds Try.pinned (OpenSpec.ofChange fnExactDartBetweenSpec)

/-- ITS FALSE NEIGHBOUR: 'it returns false'. Refute it at one input. -/
def fnExactDartBetweenWrong : ChangeSpec := { name := "fnExactDartBetween", fn := fun _ => fun
  | [d1, d2, d3] => { results := [.lit (.bool false)], args := [d1, d2, d3] }
  | _ => none }
def FnExactDartBetweenWrongFalsely : Prop := fnExactDartBetweenRow.holds Try.pinned (OpenSpec.ofChange fnExactDartBetweenWrong)

/-- 'laws.FnExactDegreeOf': WHATEVER THE INPUT: true; the input reads as it did. -/
def fnExactDegreeOfSpec : ChangeSpec := { name := "fnExactDegreeOf", fn := fun _ => fun
  | [d1, d2] => { results := [.lit (.bool true)], args := [d1, d2] }
  | _ => none }
def fnExactDegreeOfRow : OpenClaim := { program := "ythghbpklabdghaa", sum := "a121c06b983f4ade904132efe2caf4d9751c84421feed66ece6680ee4aed55e2", func := "loop.example/g03303/laws.FnExactDegreeOf", spec := "fnExactDegreeOf", apart := false }
def FnExactDegreeOfSaid : Prop := fnExactDegreeOfRow.holds Try.pinned (OpenSpec.ofChange fnExactDegreeOfSpec)

/-- ITS FALSE NEIGHBOUR: 'it returns false'. Refute it at one input. -/
def fnExactDegreeOfWrong : ChangeSpec := { name := "fnExactDegreeOf", fn := fun _ => fun
  | [d1, d2] => { results := [.lit (.bool false)], args := [d1, d2] }
  | _ => none }
def FnExactDegreeOfWrongFalsely : Prop := fnExactDegreeOfRow.holds Try.pinned (OpenSpec.ofChange fnExactDegreeOfWrong)

/-- 'laws.FnExactLeadsAt': WHATEVER THE INPUT: true; the input reads as it did. -/
def fnExactLeadsAtSpec : ChangeSpec := { name := "fnExactLeadsAt", fn := fun _ => fun
  | [d1, d2] => { results := [.lit (.bool true)], args := [d1, d2] }
  | _ => none }
def fnExactLeadsAtRow : OpenClaim := { program := "ythghbpklabdghaa", sum := "a121c06b983f4ade904132efe2caf4d9751c84421feed66ece6680ee4aed55e2", func := "loop.example/g03303/laws.FnExactLeadsAt", spec := "fnExactLeadsAt", apart := false }
def FnExactLeadsAtSaid : Prop := fnExactLeadsAtRow.holds Try.pinned (OpenSpec.ofChange fnExactLeadsAtSpec)

/-- ITS FALSE NEIGHBOUR: 'it returns false'. Refute it at one input. -/
def fnExactLeadsAtWrong : ChangeSpec := { name := "fnExactLeadsAt", fn := fun _ => fun
  | [d1, d2] => { results := [.lit (.bool false)], args := [d1, d2] }
  | _ => none }
def FnExactLeadsAtWrongFalsely : Prop := fnExactLeadsAtRow.holds Try.pinned (OpenSpec.ofChange fnExactLeadsAtWrong)

/-- 'laws.FnLeads': WHATEVER THE INPUT: true; the input reads as it did. -/
def fnLeadsSpec : ChangeSpec := { name := "fnLeads", fn := fun _ => fun
  | [d] => { results := [.lit (.bool true)], args := [d] }
  | _ => none }
def fnLeadsRow : OpenClaim := { program := "ythghbpklabdghaa", sum := "a121c06b983f4ade904132efe2caf4d9751c84421feed66ece6680ee4aed55e2", func := "loop.example/g03303/laws.FnLeads", spec := "fnLeads", apart := false }
def FnLeadsSaid : Prop := fnLeadsRow.holds Try.pinned (OpenSpec.ofChange fnLeadsSpec)

/-- ITS FALSE NEIGHBOUR: 'it returns false'. Refute it at one input. -/
def fnLeadsWrong : ChangeSpec := { name := "fnLeads", fn := fun _ => fun
  | [d] => { results := [.lit (.bool false)], args := [d] }
  | _ => none }
def FnLeadsWrongFalsely : Prop := fnLeadsRow.holds Try.pinned (OpenSpec.ofChange fnLeadsWrong)

/- THE SECOND FORM. 'bulk': how many values and letters a reading holds, each counted each time it is reached (what is shared counts as often as it is met; a slice's spare places count too). A statement '..UptoSaid' is the law's where the arguments, and the package variables that the reading takes, are together of bulk at most 1048576: NARROWER than '..Said'. Prove '..Said' where nothing that the law and all that it calls make is longer than what came in: it says more and counts as full. Else prove '..UptoSaid'. A law counts once. -/
mutual
def uptoBulk {H : Type} : DataW H → Nat
  | .lit (.string bytes) => bytes.length + 1
  | .lit _ => 1
  | .nil => 1
  | .ptr d => uptoBulk d + 1
  | .slice elems spare => uptoBulkAll elems + uptoBulkAll spare + 1
  | .agg parts => uptoBulkAll parts + 1
  | .iface _ d => uptoBulk d + 1
  | .map entries => uptoBulkEntries entries + 1
  | .held _ => 1
def uptoBulkAll {H : Type} : List (DataW H) → Nat
  | [] => 0
  | d :: r => uptoBulk d + uptoBulkAll r
def uptoBulkEntries {H : Type} : List (Lit × DataW H) → Nat
  | [] => 0
  | x :: r => uptoBulkEntry x + uptoBulkEntries r
def uptoBulkEntry {H : Type} : Lit × DataW H → Nat
  | (.string bytes, d) => bytes.length + uptoBulk d + 1
  | (_, d) => uptoBulk d + 1
 end
def uptoSmall : (H : Type) → List (DataW H) → Bool := fun _ ds => decide (uptoBulkAll ds ≤ 1048576)
def OpenSpec.upto (s : _root_.Go.ChangeSpec) : _root_.Go.OpenSpec := { _root_.Go.OpenSpec.ofChange s with cond := some uptoSmall }

/-- 'laws.FnExactSampleWindow', WHERE WHAT IT READS IS OF BULK AT MOST 1048576: true; the input reads as it did. -/
def fnExactSampleWindowUptoRow : OpenClaim := { program := "ythghbpklabdghaa", sum := "a121c06b983f4ade904132efe2caf4d9751c84421feed66ece6680ee4aed55e2", func := "loop.example/g03303/laws.FnExactSampleWindow", spec := "fnExactSampleWindow", apart := false, narrowed := true }
def FnExactSampleWindowUptoSaid : Prop := fnExactSampleWindowUptoRow.holds Try.pinned (OpenSpec.upto fnExactSampleWindowSpec)

/-- 'laws.FnExactLeadOk', WHERE WHAT IT READS IS OF BULK AT MOST 1048576: true; the input reads as it did. -/
def fnExactLeadOkUptoRow : OpenClaim := { program := "ythghbpklabdghaa", sum := "a121c06b983f4ade904132efe2caf4d9751c84421feed66ece6680ee4aed55e2", func := "loop.example/g03303/laws.FnExactLeadOk", spec := "fnExactLeadOk", apart := false, narrowed := true }
def FnExactLeadOkUptoSaid : Prop := fnExactLeadOkUptoRow.holds Try.pinned (OpenSpec.upto fnExactLeadOkSpec)

/-- 'laws.FnExactIsOnLead', WHERE WHAT IT READS IS OF BULK AT MOST 1048576: true; the input reads as it did. -/
def fnExactIsOnLeadUptoRow : OpenClaim := { program := "ythghbpklabdghaa", sum := "a121c06b983f4ade904132efe2caf4d9751c84421feed66ece6680ee4aed55e2", func := "loop.example/g03303/laws.FnExactIsOnLead", spec := "fnExactIsOnLead", apart := false, narrowed := true }
def FnExactIsOnLeadUptoSaid : Prop := fnExactIsOnLeadUptoRow.holds Try.pinned (OpenSpec.upto fnExactIsOnLeadSpec)

/-- 'laws.FnExactDoCross', WHERE WHAT IT READS IS OF BULK AT MOST 1048576: true; the input reads as it did. -/
def fnExactDoCrossUptoRow : OpenClaim := { program := "ythghbpklabdghaa", sum := "a121c06b983f4ade904132efe2caf4d9751c84421feed66ece6680ee4aed55e2", func := "loop.example/g03303/laws.FnExactDoCross", spec := "fnExactDoCross", apart := false, narrowed := true }
def FnExactDoCrossUptoSaid : Prop := fnExactDoCrossUptoRow.holds Try.pinned (OpenSpec.upto fnExactDoCrossSpec)

/-- 'laws.FnExactWindowOk', WHERE WHAT IT READS IS OF BULK AT MOST 1048576: true; the input reads as it did. -/
def fnExactWindowOkUptoRow : OpenClaim := { program := "ythghbpklabdghaa", sum := "a121c06b983f4ade904132efe2caf4d9751c84421feed66ece6680ee4aed55e2", func := "loop.example/g03303/laws.FnExactWindowOk", spec := "fnExactWindowOk", apart := false, narrowed := true }
def FnExactWindowOkUptoSaid : Prop := fnExactWindowOkUptoRow.holds Try.pinned (OpenSpec.upto fnExactWindowOkSpec)

/-- 'laws.FnExactLeadBetween', WHERE WHAT IT READS IS OF BULK AT MOST 1048576: true; the input reads as it did. -/
def fnExactLeadBetweenUptoRow : OpenClaim := { program := "ythghbpklabdghaa", sum := "a121c06b983f4ade904132efe2caf4d9751c84421feed66ece6680ee4aed55e2", func := "loop.example/g03303/laws.FnExactLeadBetween", spec := "fnExactLeadBetween", apart := false, narrowed := true }
def FnExactLeadBetweenUptoSaid : Prop := fnExactLeadBetweenUptoRow.holds Try.pinned (OpenSpec.upto fnExactLeadBetweenSpec)

/-- 'laws.FnExactDartFrom', WHERE WHAT IT READS IS OF BULK AT MOST 1048576: true; the input reads as it did. -/
def fnExactDartFromUptoRow : OpenClaim := { program := "ythghbpklabdghaa", sum := "a121c06b983f4ade904132efe2caf4d9751c84421feed66ece6680ee4aed55e2", func := "loop.example/g03303/laws.FnExactDartFrom", spec := "fnExactDartFrom", apart := false, narrowed := true }
def FnExactDartFromUptoSaid : Prop := fnExactDartFromUptoRow.holds Try.pinned (OpenSpec.upto fnExactDartFromSpec)

/-- 'laws.FnExactDartTo', WHERE WHAT IT READS IS OF BULK AT MOST 1048576: true; the input reads as it did. -/
def fnExactDartToUptoRow : OpenClaim := { program := "ythghbpklabdghaa", sum := "a121c06b983f4ade904132efe2caf4d9751c84421feed66ece6680ee4aed55e2", func := "loop.example/g03303/laws.FnExactDartTo", spec := "fnExactDartTo", apart := false, narrowed := true }
def FnExactDartToUptoSaid : Prop := fnExactDartToUptoRow.holds Try.pinned (OpenSpec.upto fnExactDartToSpec)

/-- 'laws.FnExactDartBetween', WHERE WHAT IT READS IS OF BULK AT MOST 1048576: true; the input reads as it did. -/
def fnExactDartBetweenUptoRow : OpenClaim := { program := "ythghbpklabdghaa", sum := "a121c06b983f4ade904132efe2caf4d9751c84421feed66ece6680ee4aed55e2", func := "loop.example/g03303/laws.FnExactDartBetween", spec := "fnExactDartBetween", apart := false, narrowed := true }
def FnExactDartBetweenUptoSaid : Prop := fnExactDartBetweenUptoRow.holds Try.pinned (OpenSpec.upto fnExactDartBetweenSpec)

/-- 'laws.FnExactDegreeOf', WHERE WHAT IT READS IS OF BULK AT MOST 1048576: true; the input reads as it did. -/
def fnExactDegreeOfUptoRow : OpenClaim := { program := "ythghbpklabdghaa", sum := "a121c06b983f4ade904132efe2caf4d9751c84421feed66ece6680ee4aed55e2", func := "loop.example/g03303/laws.FnExactDegreeOf", spec := "fnExactDegreeOf", apart := false, narrowed := true }
def FnExactDegreeOfUptoSaid : Prop := fnExactDegreeOfUptoRow.holds Try.pinned (OpenSpec.upto fnExactDegreeOfSpec)

/-- 'laws.FnExactLeadsAt', WHERE WHAT IT READS IS OF BULK AT MOST 1048576: true; the input reads as it did. -/
def fnExactLeadsAtUptoRow : OpenClaim := { program := "ythghbpklabdghaa", sum := "a121c06b983f4ade904132efe2caf4d9751c84421feed66ece6680ee4aed55e2", func := "loop.example/g03303/laws.FnExactLeadsAt", spec := "fnExactLeadsAt", apart := false, narrowed := true }
def FnExactLeadsAtUptoSaid : Prop := fnExactLeadsAtUptoRow.holds Try.pinned (OpenSpec.upto fnExactLeadsAtSpec)

/-- 'laws.FnLeads', WHERE WHAT IT READS IS OF BULK AT MOST 1048576: true; the input reads as it did. -/
def fnLeadsUptoRow : OpenClaim := { program := "ythghbpklabdghaa", sum := "a121c06b983f4ade904132efe2caf4d9751c84421feed66ece6680ee4aed55e2", func := "loop.example/g03303/laws.FnLeads", spec := "fnLeads", apart := false, narrowed := true }
def FnLeadsUptoSaid : Prop := fnLeadsUptoRow.holds Try.pinned (OpenSpec.upto fnLeadsSpec)

end Rows
end Go.Proofs.Ythghbpklabdghaa

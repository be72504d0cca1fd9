/- What the laws' helpers on windows do: the size, the copy, the comparison. No condition but the sizes that are named. -/
import Derived.Test.YtbijbohkpjnjnaaConv
import Derived.Test.YtbijbohkpjnjnaaWinP
namespace Go.Proofs.Ytbijbohkpjnjnaa
open Go.ChangeShapes Go.WideShapes Go.ChangeAt Go.RowKit
set_option maxHeartbeats 1000000
set_option linter.unusedSimpArgs false
set_option linter.unusedVariables false

def szW (left n m : Int) : Int := if left - n < 0 then -1 else szF (left - n) m
def NewWin (ns ls : List (Int × Int)) (w : World) (e : Ending) (w' : World) : Prop := ∃ p1 p2, e = .returned (.agg #[p1, p2]) ∧ OwnPairs w.heap.size 38 w' p1 ns ∧ OwnPairs w.heap.size 30 w' p2 ls ∧ Below w.heap.size w w'
theorem Blk.far {w : World} {g : Nat} {t : TypeId} {cs : Array Value} (h : Blk w g t cs) {p : Addr} (hp : g ≠ p.block) (u : Value) : Blk (w.setCell p u) g t cs := (Below.heap_setCell w p u g hp).trans h
end Go.Proofs.Ytbijbohkpjnjnaa

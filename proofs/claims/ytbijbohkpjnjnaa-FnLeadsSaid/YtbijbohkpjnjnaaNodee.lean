/- What IsBeforeAround returns, in the program and in the reference, for all arguments. No condition. -/
import Derived.Test.YtbijbohkpjnjnaaNoded
namespace Go.Proofs.Ytbijbohkpjnjnaa
open Go.ChangeShapes Go.WideShapes Go.ChangeAt Go.RowKit
set_option maxHeartbeats 400000

theorem iBetw_any (ax ay bx by' cx cy : Int) (w : World) : Calls Try.prog 16 #[.agg #[.int .i64 ax, .int .i64 ay], .agg #[.int .i64 bx, .int .i64 by'], .agg #[.int .i64 cx, .int .i64 cy]] w fun e w' => e = .returned (.bool (betw ax ay bx by' cx cy)) ∧ Below w.heap.size w w' := by
  cases h : okAll [(ax, ay), (bx, by'), (cx, cy)]
  · exact iBetw_no _ _ _ _ _ _ _ h
  · exact iBetw_yes _ _ _ _ _ _ _ h
end Go.Proofs.Ytbijbohkpjnjnaa

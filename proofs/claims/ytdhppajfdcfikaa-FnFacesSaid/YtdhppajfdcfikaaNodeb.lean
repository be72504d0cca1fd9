/- What the program's and the reference's further functions on numbers, nodes and leads return, for all arguments. No condition. -/
import Derived.Test.YtdhppajfdcfikaaNode
namespace Go.Proofs.Ytdhppajfdcfikaa
open Go.ChangeShapes Go.WideShapes Go.ChangeAt Go.RowKit
set_option maxHeartbeats 400000

theorem sHalf_any (ax ay bx by' : Int) (w : World) : Calls Try.prog 133 #[.agg #[.int .i64 ax, .int .i64 ay], .agg #[.int .i64 bx, .int .i64 by']] w fun e w' => e = .returned (.int .i64 (half ax ay bx by')) ∧ Below w.heap.size w w' := by
  go_enter Try.func133, Try.ntmps133
  go_wp2
  all_goals go_ret
  all_goals exact ⟨ret_int (by unfold half; repeat' split <;> omega), by repeat (first | exact Below.refl _ _ | refine Below.alloc ?_ (by simp; try omega) _)⟩
theorem iHalf_any (ax ay bx by' : Int) (w : World) : Calls Try.prog 121 #[.agg #[.int .i64 ax, .int .i64 ay], .agg #[.int .i64 bx, .int .i64 by']] w fun e w' => e = .returned (.int .i64 (half ax ay bx by')) ∧ Below w.heap.size w w' := by
  go_enter Try.func121, Try.ntmps121
  go_wp2
  all_goals go_ret
  all_goals exact ⟨ret_int (by unfold half; repeat' split <;> omega), by repeat (first | exact Below.refl _ _ | refine Below.alloc ?_ (by simp; try omega) _)⟩
theorem xor1 (d : Int) (h0 : 0 ≤ d) (h1 : d ≤ 1000) : bits .xor .i64 d 1 = if d % 2 = 0 then d + 1 else d - 1 := by
  have : ∀ k : Fin 1001, bits .xor .i64 (k.val : Int) 1 = if (k.val : Int) % 2 = 0 then (k.val : Int) + 1 else (k.val : Int) - 1 := by decide +kernel
  have := this ⟨d.toNat, by omega⟩
  rw [show ((d.toNat : Nat) : Int) = d by omega] at this
  exact this
theorem lensq_wrap (ax ay bx by' : Int) : (ax - bx) * (ax - bx) + (ay - by') * (ay - by') = (bx - ax) * (bx - ax) + (by' - ay) * (by' - ay) := by
  rw [show ax - bx = -(bx - ax) by omega, show ay - by' = -(by' - ay) by omega, Int.neg_mul_neg, Int.neg_mul_neg]
theorem okAll2 (a b : Int × Int) : okAll [a, b] = (nodeOkB a.1 a.2 && nodeOkB b.1 b.2) := by simp [okAll]
theorem okAll3 (a b c : Int × Int) : okAll [a, b, c] = (nodeOkB a.1 a.2 && (nodeOkB b.1 b.2 && nodeOkB c.1 c.2)) := by simp [okAll]
end Go.Proofs.Ytdhppajfdcfikaa

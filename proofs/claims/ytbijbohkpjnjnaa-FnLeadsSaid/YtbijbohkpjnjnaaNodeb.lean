/- What the program's and the reference's further functions on numbers, nodes and leads return, for all arguments. No condition. -/
import Derived.Test.YtbijbohkpjnjnaaNode
namespace Go.Proofs.Ytbijbohkpjnjnaa
open Go.ChangeShapes Go.WideShapes Go.ChangeAt Go.RowKit
set_option maxHeartbeats 400000

theorem iShare_any (f t g u : Int) (w : World) : Calls Try.prog 9 #[.agg #[.int .i64 f, .int .i64 t], .agg #[.int .i64 g, .int .i64 u]] w fun e w' => e = .returned (.bool (shareF f t g u)) ∧ Below w.heap.size w w' := by
  go_enter Try.func9, Try.ntmps9
  go_wp2
  all_goals go_ret
  all_goals exact ⟨ret_bool (by unfold shareF; rw [Bool.eq_iff_iff]; simp; try omega), by repeat (first | exact Below.refl _ _ | refine Below.alloc ?_ (by simp; try omega) _)⟩
theorem iOther_any (f t k : Int) (w : World) : Calls Try.prog 11 #[.agg #[.int .i64 f, .int .i64 t], .int .i64 k] w fun e w' => e = .returned (.int .i64 (otherF f t k)) ∧ Below w.heap.size w w' := by
  by_cases h1 : k = f
  · subst h1
    go_enter Try.func11, Try.ntmps11
    go_wp2
    go_ret
    exact ⟨ret_int (by simp [otherF]), by repeat (first | exact Below.refl _ _ | refine Below.alloc ?_ (by simp; try omega) _)⟩
  · have h1' : (k == f) = false := by simpa using h1
    by_cases h2 : k = t
    · subst h2
      go_enter Try.func11, Try.ntmps11
      go_wp2
      go_ret
      exact ⟨ret_int (by simp [otherF, h1]), by repeat (first | exact Below.refl _ _ | refine Below.alloc ?_ (by simp; try omega) _)⟩
    · have h2' : (k == t) = false := by simpa using h2
      go_enter Try.func11, Try.ntmps11
      go_wp2
      go_ret
      exact ⟨ret_int (by simp [otherF, h1, h2]), by repeat (first | exact Below.refl _ _ | refine Below.alloc ?_ (by simp; try omega) _)⟩
theorem xor1 (d : Int) (h0 : 0 ≤ d) (h1 : d ≤ 1000) : bits .xor .i64 d 1 = if d % 2 = 0 then d + 1 else d - 1 := by
  have : ∀ k : Fin 1001, bits .xor .i64 (k.val : Int) 1 = if (k.val : Int) % 2 = 0 then (k.val : Int) + 1 else (k.val : Int) - 1 := by decide +kernel
  have := this ⟨d.toNat, by omega⟩
  rw [show ((d.toNat : Nat) : Int) = d by omega] at this
  exact this
theorem lensq_wrap (ax ay bx by' : Int) : (ax - bx) * (ax - bx) + (ay - by') * (ay - by') = (bx - ax) * (bx - ax) + (by' - ay) * (by' - ay) := by
  rw [show ax - bx = -(bx - ax) by omega, show ay - by' = -(by' - ay) by omega, Int.neg_mul_neg, Int.neg_mul_neg]
theorem okAll2 (a b : Int × Int) : okAll [a, b] = (nodeOkB a.1 a.2 && nodeOkB b.1 b.2) := by simp [okAll]
theorem okAll3 (a b c : Int × Int) : okAll [a, b, c] = (nodeOkB a.1 a.2 && (nodeOkB b.1 b.2 && nodeOkB c.1 c.2)) := by simp [okAll]
end Go.Proofs.Ytbijbohkpjnjnaa

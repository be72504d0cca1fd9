/- The sample window, in the program and in the reference: a new window. No condition. -/
import Derived.Test.YtbijbohkpjnjnaaMarkw
import Derived.Test.YtbijbohkpjnjnaaHeld
namespace Go.Proofs.Ytbijbohkpjnjnaa
open Go.ChangeShapes Go.WideShapes Go.ChangeAt Go.RowKit
set_option maxHeartbeats 1000000
set_option linter.unusedSimpArgs false
set_option linter.unusedVariables false
def smpN : List (Int × Int) := [(0, 0), (8, 0), (8, 8), (0, 8), (4, 4)]
def smpL : List (Int × Int) := [(0, 1), (1, 2), (2, 3), (0, 3), (0, 4), (1, 4), (2, 4), (3, 4)]
theorem alloc3 (w : World) (A B C : Obj) : (((w.alloc A).alloc B).alloc C).heap[w.heap.size]? = some A ∧ (((w.alloc A).alloc B).alloc C).heap[w.heap.size + 1]? = some B ∧ (((w.alloc A).alloc B).alloc C).heap[w.heap.size + 1 + 1]? = some C ∧ Below w.heap.size w (((w.alloc A).alloc B).alloc C) := by
  refine ⟨?_, ?_, ?_, (((Below.refl _ _).alloc (Nat.le_refl _) _).alloc (by simp) _).alloc (by simp; omega) _⟩
  · rw [Below.heap_alloc _ _ _ (by simp; omega), Below.heap_alloc _ _ _ (by simp)]; exact heap_alloc_new _ _
  · rw [Below.heap_alloc _ _ _ (by simp)]; exact heap_alloc2_new _ _ _
  · have := heap_alloc2_new (w.alloc A) B C
    rwa [show (w.alloc A).heap.size = w.heap.size + 1 by simp] at this
theorem sSmp_any (w : World) : Calls Try.prog 32 #[] w (NewWin smpN smpL w) := by
  go_enter Try.func32, Try.ntmps32
  go_wp2
  refine bodyPost_ret (results_cell_row rfl _ _ w.heap.size _ _ _ _ rfl (alloc3 _ _ _ _).1 Try.underlying27 rfl (by kernel_rfl)) rfl ?_
  exact ⟨_, _, rfl, ⟨_, rfl, by omega, by decide, (alloc3 _ _ _ _).2.1⟩, ⟨_, rfl, by omega, by decide, (alloc3 _ _ _ _).2.2.1⟩, (alloc3 _ _ _ _).2.2.2⟩
end Go.Proofs.Ytbijbohkpjnjnaa

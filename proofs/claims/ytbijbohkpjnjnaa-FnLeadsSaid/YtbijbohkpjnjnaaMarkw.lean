/- What the laws' helper does that marks a new window: its two slices change, and no other memory. No condition but the sizes that are named. -/
import Derived.Test.YtbijbohkpjnjnaaMark
import Derived.Test.YtbijbohkpjnjnaaWconv
namespace Go.Proofs.Ytbijbohkpjnjnaa
open Go.ChangeShapes Go.WideShapes Go.ChangeAt Go.RowKit
set_option maxHeartbeats 1000000
set_option linter.unusedSimpArgs false
set_option linter.unusedVariables false
theorem grown_set (w : World) (g i : Nat) (u : Value) : w.grownBy (w.setCell ⟨g, i, none⟩ u) (some g) :=
  ⟨rfl, rfl, rfl, by simp [World.setCell], fun k _ hk => Below.heap_setCell w ⟨g, i, none⟩ u k (fun e => hk (by rw [e]))⟩
theorem grown_below {B g : Nat} {w w' : World} (h : w.grownBy w' (some g)) (hg : B ≤ g) (hB : B ≤ w.heap.size) : Below B w w' :=
  ⟨h.os, h.tape, h.output, h.size, fun k hk => h.block k (by omega) (fun e => by injection e with e; omega)⟩
theorem OwnInts.beside {B g : Nat} {T : TypeId} {cs : Array Value} {w w' : World} {v : Value} {xs : List Int} (h : OwnInts B w v xs) (hg : w.grownBy w' (some g)) (hb : Blk w g T cs) (hT : T ≠ 3) : OwnInts B w' v xs := by
  refine World.ownsRow.kept h hg ?_
  rcases h.2 with ⟨h1, h2⟩ | ⟨g', cap, cur, h1, h2, h3, h4⟩
  · exact .inl (by rw [h1]; rfl)
  · refine .inr (fun e => ?_)
    rw [h1] at e
    have e' : g' = g := by simpa [Value.ownBlock] using e
    subst e'
    unfold Blk at hb
    rw [hb] at h3
    injection h3 with h3
    injection h3 with _ h3 _
    exact hT h3
/-- a window's two slices were marked -/
def MarkedWin (B : Nat) (w : World) (e : Ending) (w' : World) : Prop := (∃ q : Int, 0 ≤ q ∧ e = .returned (.int .i64 q)) ∧ Below B w w' ∧ ∀ B' v xs, OwnInts B' w v xs → OwnInts B' w' v xs
end Go.Proofs.Ytbijbohkpjnjnaa

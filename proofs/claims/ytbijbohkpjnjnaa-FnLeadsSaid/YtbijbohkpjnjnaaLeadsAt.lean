/- What LeadsAt and DegreeOf return, in the program and in the reference. No condition. -/
import Derived.Test.YtbijbohkpjnjnaaDartb
import Derived.OwnWalk
namespace Go.Proofs.Ytbijbohkpjnjnaa
open Go.ChangeShapes Go.WideShapes Go.ChangeAt Go.RowKit
set_option maxHeartbeats 1000000
set_option linter.unusedSimpArgs false
set_option linter.unusedVariables false
/-- the numbers of the first n leads that have the end k -/
def atL (ls : List (Int × Int)) (k : Int) : Nat → List Int
  | 0 => []
  | n + 1 => if (ptN ls n).1 = k ∨ (ptN ls n).2 = k then atL ls k n ++ [(n : Int)] else atL ls k n
theorem atL_len (ls : List (Int × Int)) (k : Int) : ∀ n, (atL ls k n).length ≤ n
  | 0 => by simp [atL]
  | n + 1 => by
    have := atL_len ls k n
    unfold atL
    split
    · simp; omega
    · omega
def isNode (ns ls : List (Int × Int)) (k : Int) : Bool := winOkB ns ls && inB k 0 ((ns.length : Int) - 1)
def laF (ns ls : List (Int × Int)) (k : Int) : List Int := if isNode ns ls k then atL ls k ls.length else []
def ints (xs : List Int) : List Value := xs.map (Value.int .i64)
/-- a new slice of ints in memory from block B on -/
def OwnInts (B : Nat) (w : World) (v : Value) (xs : List Int) : Prop := w.ownsRow B 3 1 v xs.length (ints xs)
def NewInts (xs : List Int) (w : World) (e : Ending) (w' : World) : Prop := ∃ v, e = .returned v ∧ OwnInts w.heap.size w' v xs ∧ Below w.heap.size w w'
theorem own_form {w : World} {B : Nat} {v : Value} {xs : List Int} (h : OwnInts B w v xs) : ∃ A c, v = .slice A xs.length c := by
  rcases h.2 with ⟨h1, h2⟩ | ⟨g, cap, cur, h1, _⟩
  · exact ⟨none, 0, by rw [h1, h2]⟩
  · exact ⟨_, _, h1⟩
theorem infoI : (Try.prog.info? 3).map (fun i => (i.zero, i.size, i.bytes)) = some (some (.int .i64 0), 1, 8) := by kernel_rfl
theorem own_less {B C : Nat} {w : World} {v : Value} {xs : List Int} (h : OwnInts B w v xs) (hC : C ≤ B) : OwnInts C w v xs := by
  refine ⟨h.1, ?_⟩
  rcases h.2 with h' | ⟨g, cap, cur, h1, h2, h3⟩
  · exact .inl h'
  · exact .inr ⟨g, cap, cur, h1, by omega, h3⟩
theorem own_below {B : Nat} {w w' : World} {v : Value} {xs : List Int} (h : OwnInts B w v xs) (hb : Below w.heap.size w w') : OwnInts B w' v xs := by
  refine ⟨h.1, ?_⟩
  rcases h.2 with h' | ⟨g, cap, cur, h1, h2, h3, h4⟩
  · exact .inl h'
  · have hg : g < w.heap.size := by
      rcases Nat.lt_or_ge g w.heap.size with hlt | hge
      · exact hlt
      · rw [Array.getElem?_eq_none hge] at h3; cases h3
    exact .inr ⟨g, cap, cur, h1, h2, (hb.block g hg).trans h3, h4⟩
end Go.Proofs.Ytbijbohkpjnjnaa

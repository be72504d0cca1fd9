/- What the laws' helpers do that mark a slice of ints, look for the marks and compare two slices of ints. No condition but the sizes that are named. -/
import Derived.Test.YtbijbohkpjnjnaaLeadsAt
namespace Go.Proofs.Ytbijbohkpjnjnaa
open Go.ChangeShapes Go.WideShapes Go.ChangeAt Go.RowKit
set_option maxHeartbeats 1000000
set_option linter.unusedSimpArgs false
set_option linter.unusedVariables false
/-- the value is a slice of these ints -/
def IntsAt (w : World) (v : Value) (xs : List Int) : Prop :=
  ∃ A c, v = .slice A xs.length c ∧ xs.length ≤ 1000000000 ∧ ∀ i x, xs[i]? = some x → ∃ b off, A = some ⟨b, off, none⟩ ∧ b < w.heap.size ∧ w.cell? ⟨b, off + i, none⟩ = some (.int .i64 x)
theorem IntsAt.below {w w' : World} {v : Value} {xs : List Int} (h : IntsAt w v xs) (hb : Below w.heap.size w w') : IntsAt w' v xs := by
  obtain ⟨A, c, h1, h2, h3⟩ := h
  refine ⟨A, c, h1, h2, fun i x hi => ?_⟩
  obtain ⟨b, off, e1, e2, e3⟩ := h3 i x hi
  exact ⟨b, off, e1, Nat.lt_of_lt_of_le e2 hb.size, by rw [hb.cell (p := ⟨b, _, none⟩) e2]; exact e3⟩
theorem ints_get (xs : List Int) (i : Nat) (x : Int) (h : xs[i]? = some x) : (ints xs)[i]? = some (.int .i64 x) := by simp [ints, h]
theorem OwnInts.at_ {B : Nat} {w : World} {v : Value} {xs : List Int} (h : OwnInts B w v xs) (hn : xs.length ≤ 1000000000) : IntsAt w v xs := by
  rcases h.2 with ⟨h1, h2⟩ | ⟨g, cap, cur, h1, h2, h3, h4⟩
  · have hx : xs = [] := List.eq_nil_of_length_eq_zero h2
    subst hx
    exact ⟨none, 0, h1, by simp, fun i x hi => by simp at hi⟩
  · have hg : g < w.heap.size := by
      rcases Nat.lt_or_ge g w.heap.size with hlt | hge
      · exact hlt
      · rw [Array.getElem?_eq_none hge] at h3; cases h3
    refine ⟨_, cap, h1, hn, fun i x hi => ⟨g, 0, rfl, hg, ?_⟩⟩
    have hi2 : i < xs.length := by
      rcases Nat.lt_or_ge i xs.length with h' | h'
      · exact h'
      · rw [List.getElem?_eq_none h'] at hi; cases hi
    subst h1
    have := World.ownsRow.cellAt h i (by omega)
    rw [show 0 + i = i by omega, this]
    exact ints_get xs i x hi
def marks (k : Int) (n : Nat) : List Int := (List.range n).map (fun i : Nat => k + (i : Int))
theorem marks_len (k : Int) (n : Nat) : (marks k n).length = n := by simp [marks]
theorem marks_get (k : Int) (n i : Nat) (h : i < n) : (marks k n)[i]? = some (k + (i : Int)) := by simp [marks, h]
theorem marks_succ (k : Int) (n : Nat) : marks k (n + 1) = marks k n ++ [k + (n : Int)] := by simp [marks, List.range_succ]
theorem ints_append (a b : List Int) : ints (a ++ b) = ints a ++ ints b := by simp [ints]
theorem mark_step (k : Int) (xs : List Int) (j : Nat) (hj : j < xs.length) : (ints (marks k j ++ xs.drop j)).set j (.int .i64 (k + (j : Int))) = ints (marks k (j + 1) ++ xs.drop (j + 1)) := by
  have e : xs.drop j = xs[j] :: xs.drop (j + 1) := List.drop_eq_getElem_cons hj
  rw [marks_succ, e, ints_append, ints_append, ints_append]
  have hl : (ints (marks k j)).length = j := by simp [ints, marks_len]
  generalize xs.drop (j + 1) = t
  generalize xs[j] = x
  have e2 : ints (x :: t) = .int .i64 x :: ints t := rfl
  have e3 : ints [k + (j : Int)] = [.int .i64 (k + (j : Int))] := rfl
  rw [List.set_append_right _ _ (by omega), hl, Nat.sub_self, e2, e3, List.set_cons_zero, List.append_assoc, List.singleton_append]
def Marked (B : Nat) (v : Value) (k : Int) (n : Nat) (w : World) (e : Ending) (w' : World) : Prop := e = .returned (.int .i64 (k + (n : Int))) ∧ OwnInts B w' v (marks k n) ∧ w.grownBy w' v.ownBlock
end Go.Proofs.Ytbijbohkpjnjnaa

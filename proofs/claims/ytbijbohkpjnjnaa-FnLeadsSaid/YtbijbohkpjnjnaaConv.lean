/- What the laws' helpers on slices of nodes and leads do: the size, the copy, the comparison. No condition but the sizes that are named. -/
import Derived.Test.YtbijbohkpjnjnaaNode
import Derived.Laws.MakeOwn
namespace Go.Proofs.Ytbijbohkpjnjnaa
open Go.ChangeShapes Go.WideShapes Go.ChangeAt Go.RowKit
set_option maxHeartbeats 1000000
set_option linter.unusedSimpArgs false
set_option linter.unusedVariables false

/-- block g is just these cells -/
def Blk (w : World) (g : Nat) (t : TypeId) (cs : Array Value) : Prop := w.heap[g]? = some (.cells cs t (0, 0))
section
variable {w w' : World} {g : Nat} {t : TypeId} {cs : Array Value}
theorem Blk.lt (h : Blk w g t cs) : g < w.heap.size := by
  rcases Nat.lt_or_ge g w.heap.size with hlt | hge
  · exact hlt
  · unfold Blk at h; rw [Array.getElem?_eq_none hge] at h; cases h
theorem Blk.cell (h : Blk w g t cs) (i : Nat) : w.cell? ⟨g, i, none⟩ = cs[i]? := cell_of_row w g i cs t (0, 0) h
theorem Blk.frozen (h : Blk w g t cs) (i : Nat) : w.frozen? ⟨g, i, none⟩ = false := by
  unfold Blk at h
  simp [World.frozen?, h]
theorem Blk.new (w : World) (t : TypeId) (cs : Array Value) : Blk (w.alloc (.cells cs t)) w.heap.size t cs := heap_alloc_new w _
theorem Blk.set_ (h : Blk w g t cs) (i : Nat) (u : Value) : Blk (w.setCell ⟨g, i, none⟩ u) g t (cs.setIfInBounds i u) := by
  unfold Blk at h ⊢
  simp [World.setCell, Array.getElem?_modify, h]
theorem Blk.below {B : Nat} (h : Blk w g t cs) (hb : Below B w w') (hg : g < B) : Blk w' g t cs := (hb.block g hg).trans h
end
theorem Blk.grow {g : Nat} {T : TypeId} {cs : Array Value} {w w' : World} {row : Option Nat} (h : Blk w g T cs) (hg : w.grownBy w' row) (hr : some g ≠ row) : Blk w' g T cs := by
  have hlt := h.lt
  unfold Blk at h ⊢; rw [hg.block g hlt hr]; exact h
/-- a new slice of pairs in memory from block B on -/
def OwnPairs (B : Nat) (T : TypeId) (w : World) (v : Value) (ns : List (Int × Int)) : Prop := ∃ g, v = .slice (some ⟨g, 0, none⟩) ns.length ns.length ∧ B ≤ g ∧ ns.length ≤ 1048576 ∧ Blk w g T (flat ns).toArray
theorem flat_length (ns : List (Int × Int)) : (flat ns).length = 2 * ns.length := by
  induction ns with
  | nil => rfl
  | cons p t ih => have e : flat (p :: t) = .int .i64 p.1 :: .int .i64 p.2 :: flat t := rfl
                   rw [e]; simp [ih]; omega
theorem OwnPairs.pairs {B : Nat} {T : TypeId} {w : World} {v : Value} {ns : List (Int × Int)} (h : OwnPairs B T w v ns) : PairsAt w v ns := by
  obtain ⟨g, rfl, hB, hn, hb⟩ := h
  refine ⟨_, _, rfl, Nat.le_refl _, by unfold maxLen; omega, fun i x y hi => ⟨g, 0, rfl, hb.lt, ?_⟩⟩
  have := flat_get ns i x y hi
  rw [hb.cell, hb.cell]
  simpa using this
theorem OwnPairs.below {B C : Nat} {T : TypeId} {w w' : World} {v : Value} {ns : List (Int × Int)} (h : OwnPairs B T w v ns) (hb : Below w.heap.size w w') : OwnPairs B T w' v ns := by
  obtain ⟨g, h1, h2, h3, h4⟩ := h
  exact ⟨g, h1, h2, h3, h4.below hb h4.lt⟩
theorem OwnPairs.less {B C : Nat} {T : TypeId} {w : World} {v : Value} {ns : List (Int × Int)} (h : OwnPairs B T w v ns) (hB : C ≤ B) : OwnPairs C T w v ns := by
  obtain ⟨g, h1, h2, h3, h4⟩ := h
  exact ⟨g, h1, by omega, h3, h4⟩
/-- the made slice, the first k pairs filled in -/
def filled (ns : List (Int × Int)) (k : Nat) : List Value := flat (ns.take k) ++ List.replicate (2 * (ns.length - k)) (.int .i64 0)
theorem filled_start (ns : List (Int × Int)) : (filled ns 0).toArray = madeCells #[.int .i64 0, .int .i64 0] (ns.length * 2) := by
  apply Array.ext_getElem?
  intro i
  simp only [filled, flat, List.take_zero, List.flatMap_nil, List.nil_append, Nat.sub_zero, List.getElem?_toArray, madeCells, Array.getElem?_map, Array.getElem?_range]
  by_cases h : i < ns.length * 2
  · rw [List.getElem?_replicate, if_pos (by omega), if_pos h]
    have : i % 2 = 0 ∨ i % 2 = 1 := by omega
    rcases this with e | e <;> simp [e]
  · rw [List.getElem?_replicate, if_neg (by omega), if_neg h]; rfl
theorem filled_length (ns : List (Int × Int)) (k : Nat) (hk : k ≤ ns.length) : (filled ns k).length = 2 * ns.length := by
  simp [filled, flat_length]; omega
theorem filled_end (ns : List (Int × Int)) : filled ns ns.length = flat ns := by simp [filled]
theorem flat_snoc (ns : List (Int × Int)) (x y : Int) : flat (ns ++ [(x, y)]) = flat ns ++ [.int .i64 x, .int .i64 y] := by simp [flat]
theorem filled_step (ns : List (Int × Int)) (k : Nat) (x y : Int) (h : ns[k]? = some (x, y)) : (((filled ns k).toArray.setIfInBounds (k * 2) (.int .i64 x)).setIfInBounds (k * 2 + 1) (.int .i64 y)) = (filled ns (k + 1)).toArray := by
  have hk : k < ns.length := by
    rcases Nat.lt_or_ge k ns.length with h' | h'
    · exact h'
    · rw [List.getElem?_eq_none h'] at h; cases h
  have hl : (flat (ns.take k)).length = k * 2 := by rw [flat_length, List.length_take]; omega
  have e1 : filled ns k = flat (ns.take k) ++ (.int .i64 0 :: .int .i64 0 :: List.replicate (2 * (ns.length - (k + 1))) (.int .i64 0)) := by
    unfold filled
    rw [show 2 * (ns.length - k) = 2 * (ns.length - (k + 1)) + 1 + 1 by omega, List.replicate_succ, List.replicate_succ]
  have e2 : filled ns (k + 1) = flat (ns.take k) ++ (.int .i64 x :: .int .i64 y :: List.replicate (2 * (ns.length - (k + 1))) (.int .i64 0)) := by
    unfold filled
    rw [List.take_add_one, h]
    simp only [Option.toList_some]
    rw [flat_snoc, List.append_assoc]; rfl
  rw [e1, e2]
  simp only [List.setIfInBounds_toArray]
  congr 1
  rw [List.set_append_right _ _ (by omega), hl, Nat.sub_self, List.set_append_right _ _ (by omega), hl]
  simp
def szF (left n : Int) : Int := if left - n < 0 then -1 else left - n
def NewNodeS (ns : List (Int × Int)) (w : World) (e : Ending) (w' : World) : Prop := ∃ v, e = .returned v ∧ OwnPairs w.heap.size 38 w' v ns ∧ Below w.heap.size w w'
theorem infoNode : (Try.prog.info? 38).map (fun i => (i.zero, i.size, i.bytes)) = some (some (.agg #[.int .i64 0, .int .i64 0]), 2, 16) := by kernel_rfl
def NewLeadS (ns : List (Int × Int)) (w : World) (e : Ending) (w' : World) : Prop := ∃ v, e = .returned v ∧ OwnPairs w.heap.size 30 w' v ns ∧ Below w.heap.size w w'
theorem infoLead : (Try.prog.info? 30).map (fun i => (i.zero, i.size, i.bytes)) = some (some (.agg #[.int .i64 0, .int .i64 0]), 2, 16) := by kernel_rfl
end Go.Proofs.Ytbijbohkpjnjnaa

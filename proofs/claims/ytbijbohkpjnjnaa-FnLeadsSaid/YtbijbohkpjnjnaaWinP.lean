/- When a window is valid, as a plain function of its nodes and leads. No condition. -/
import Derived.Test.YtbijbohkpjnjnaaCrossP
import Derived.Test.YtbijbohkpjnjnaaSlices
namespace Go.Proofs.Ytbijbohkpjnjnaa
open Go.ChangeShapes Go.WideShapes Go.ChangeAt Go.RowKit

def allB (n : Nat) (p : Nat → Bool) : Bool := (List.range n).all p
theorem allB_succ (n : Nat) (p : Nat → Bool) : allB (n + 1) p = (allB n p && p n) := by simp [allB, List.range_succ]
theorem allB_no {n k : Nat} {p : Nat → Bool} (hk : k < n) (h : p k = false) : allB n p = false := by
  unfold allB; rw [List.all_eq_false]; exact ⟨k, by simpa using hk, by simp [h]⟩
theorem allB_get {n k : Nat} {p : Nat → Bool} (h : allB n p = true) (hk : k < n) : p k = true := by
  unfold allB at h; rw [List.all_eq_true] at h; exact h k (by simpa using hk)
theorem allB_zero (p : Nat → Bool) : allB 0 p = true := rfl
theorem allB_congr {n : Nat} {p q : Nat → Bool} (h : ∀ k, k < n → p k = q k) : allB n p = allB n q := by
  induction n with
  | zero => rfl
  | succ n ih => rw [allB_succ, allB_succ, ih fun k hk => h k (by omega), h n (by omega)]
theorem allB_and (n : Nat) (p q : Nat → Bool) : allB n (fun k => p k && q k) = (allB n p && allB n q) := by
  induction n with
  | zero => rfl
  | succ n ih => rw [allB_succ, allB_succ, allB_succ, ih]; cases allB n p <;> cases allB n q <;> cases p n <;> cases q n <;> rfl
def ptN (ns : List (Int × Int)) (k : Nat) : Int × Int := ns.getD k (0, 0)
theorem ptN_of {ns : List (Int × Int)} {k : Nat} {p : Int × Int} (h : ns[k]? = some p) : ptN ns k = p := by simp [ptN, List.getD, h]
def distinctB (ns : List (Int × Int)) : Bool := allB ns.length fun i => !hasP (ns.take i) (ptN ns i).1 (ptN ns i).2
def freeB (ns : List (Int × Int)) (l : Int × Int) (k : Nat) : Bool := ((k : Int) == l.1) || (((k : Int) == l.2) || !onLeadB ns l.1 l.2 (ptN ns k).1 (ptN ns k).2)
def leadLine (ns ls : List (Int × Int)) (i : Nat) : Bool :=
  leadOkB ns (ptN ls i).1 (ptN ls i).2 && (allB i (fun j => !doCrossB ns (ptN ls i).1 (ptN ls i).2 (ptN ls j).1 (ptN ls j).2) && allB ns.length (freeB ns (ptN ls i)))
def winOkB (ns ls : List (Int × Int)) : Bool :=
  inB ns.length 1 12 && (decide ((ls.length : Int) ≤ 20) && (okAll ns && (distinctB ns && allB ls.length (leadLine ns ls))))
theorem PairsAt.take {w : World} {A : Option Addr} {c : Nat} {ns : List (Int × Int)} (h : PairsAt w (.slice A ns.length c) ns) (k : Nat) (hk : k ≤ ns.length) : PairsAt w (.slice A k c) (ns.take k) := by
  obtain ⟨A', c', e, h1, h2, h3⟩ := h
  injection e with eA _ ec
  subst eA ec
  have hl : (ns.take k).length = k := by rw [List.length_take]; omega
  refine ⟨A, c, by rw [hl], by rw [hl]; omega, h2, fun i x y hi => ?_⟩
  have hik : i < k := by
    rcases Nat.lt_or_ge i k with h' | h'
    · exact h'
    · rw [List.getElem?_eq_none (by rw [hl]; omega)] at hi; cases hi
  rw [List.getElem?_take_of_lt hik] at hi
  exact h3 i x y hi
/-- block g holds the two values -/
structure BoxV (w : World) (g : Nat) (u v : Value) : Prop where
  lt : g < w.heap.size
  c0 : w.cell? ⟨g, 0, none⟩ = some u
  c1 : w.cell? ⟨g, 1, none⟩ = some v
theorem BoxV.new (W : World) (u v : Value) (T : TypeId) (g : Nat) (hg : g = W.heap.size) : BoxV (W.alloc (.cells #[u, v] T)) g u v :=
  ⟨by simp; omega, by rw [cell_new _ _ _ _ _ hg]; rfl, by rw [cell_new _ _ _ _ _ hg]; rfl⟩
theorem BoxV.below {w w' : World} {g : Nat} {u v : Value} (h : BoxV w g u v) (hb : Below w.heap.size w w') : BoxV w' g u v :=
  ⟨Nat.lt_of_lt_of_le h.lt hb.size, by rw [hb.cell (p := ⟨g, 0, none⟩) h.lt]; exact h.c0, by rw [hb.cell (p := ⟨g, 1, none⟩) h.lt]; exact h.c1⟩
theorem BoxV.mv {w : World} {g : Nat} {u v : Value} (h : BoxV w g u v) (p : Mv) : BoxV (mv w p) g u v := h.below (below_mv w p)
theorem BoxV.alloc {w : World} {g : Nat} {u v : Value} (h : BoxV w g u v) (o : Obj) : BoxV (w.alloc o) g u v := h.below ((Below.refl _ _).alloc (Nat.le_refl _) o)
end Go.Proofs.Ytbijbohkpjnjnaa

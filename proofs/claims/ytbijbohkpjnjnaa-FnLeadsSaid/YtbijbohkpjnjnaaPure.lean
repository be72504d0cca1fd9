/- The plain functions that the program's functions on numbers, nodes and leads compute, and small facts on them. No condition. -/
import Derived.Test.YtbijbohkpjnjnaaKit
namespace Go.Proofs.Ytbijbohkpjnjnaa
open Go.ChangeShapes Go.WideShapes Go.ChangeAt Go.RowKit

def inB (n lo hi : Int) : Bool := decide (lo ≤ n ∧ n ≤ hi)
def nodeOkB (x y : Int) : Bool := inB x 0 20 && inB y 0 20
def okAll (ns : List (Int × Int)) : Bool := ns.all fun p => nodeOkB p.1 p.2
theorem okAll_snoc (ns : List (Int × Int)) (k : Nat) (x y : Int) (h : ns[k]? = some (x, y)) : okAll (ns.take (k + 1)) = (okAll (ns.take k) && nodeOkB x y) := by
  unfold okAll; rw [List.take_add_one, h]; simp
theorem okAll_no (ns : List (Int × Int)) (k : Nat) (x y : Int) (h : ns[k]? = some (x, y)) (hn : nodeOkB x y = false) : okAll ns = false := by
  unfold okAll; rw [List.all_eq_false]; exact ⟨(x, y), List.mem_of_getElem? h, by simp [hn]⟩
def tn (ax ay bx by' cx cy : Int) : Int := (bx - ax) * (cy - ay) - (by' - ay) * (cx - ax)
def turnF (ax ay bx by' cx cy : Int) : Int := if okAll [(ax, ay), (bx, by'), (cx, cy)] then tn ax ay bx by' cx cy else 0
theorem ok3 {ax ay bx by' cx cy : Int} (h : okAll [(ax, ay), (bx, by'), (cx, cy)] = true) : (0 ≤ ax ∧ ax ≤ 20) ∧ (0 ≤ ay ∧ ay ≤ 20) ∧ (0 ≤ bx ∧ bx ≤ 20) ∧ (0 ≤ by' ∧ by' ≤ 20) ∧ (0 ≤ cx ∧ cx ≤ 20) ∧ (0 ≤ cy ∧ cy ≤ 20) := by
  simp [okAll, nodeOkB, inB] at h; omega
theorem ok2 {ax ay bx by' : Int} (h : okAll [(ax, ay), (bx, by')] = true) : (0 ≤ ax ∧ ax ≤ 20) ∧ (0 ≤ ay ∧ ay ≤ 20) ∧ (0 ≤ bx ∧ bx ≤ 20) ∧ (0 ≤ by' ∧ by' ≤ 20) := by
  simp [okAll, nodeOkB, inB] at h; omega
theorem prod_bd {a b : Int} {m n : Int} (hm : 0 ≤ m) (ha : -m ≤ a ∧ a ≤ m) (hb : -n ≤ b ∧ b ≤ n) : -(m * n) ≤ a * b ∧ a * b ≤ m * n := by
  have hn : 0 ≤ n := by omega
  have h1 : (a.natAbs : Int) ≤ m := by omega
  have h2 : (b.natAbs : Int) ≤ n := by omega
  have h3 : ((a * b).natAbs : Int) ≤ m * n := by
    rw [Int.natAbs_mul, Int.natCast_mul]; exact Int.mul_le_mul h1 h2 (by omega) hm
  omega
def eqP (a b c d : Int) : Bool := decide (a = c ∧ b = d)
def betw (ax ay bx by' cx cy : Int) : Bool :=
  okAll [(ax, ay), (bx, by'), (cx, cy)] && !eqP ax ay bx by' && !eqP ax ay cx cy && !eqP bx by' cx cy && decide (tn ax ay bx by' cx cy = 0) &&
    inB cx (min ax bx) (max ax bx) && inB cy (min ay by') (max ay by')
def lenSq (ax ay bx by' : Int) : Int := if okAll [(ax, ay), (bx, by')] then (bx - ax) * (bx - ax) + (by' - ay) * (by' - ay) else -1
def half (ax ay bx by' : Int) : Int := if by' > ay ∨ (by' = ay ∧ bx > ax) then 0 else 1
def bef (ax ay bx by' cx cy : Int) : Bool :=
  okAll [(ax, ay), (bx, by'), (cx, cy)] && (decide (half ax ay bx by' < half ax ay cx cy) || (decide (half ax ay bx by' = half ax ay cx cy) && decide (tn ax ay bx by' cx cy > 0)))
def otherF (f t k : Int) : Int := if k = f then t else if k = t then f else -1
def shareF (f t g u : Int) : Bool := decide (f = g ∨ f = u ∨ t = g ∨ t = u)
def twinF (d : Int) : Int := if inB d 0 39 then (if d % 2 = 0 then d + 1 else d - 1) else -1
def clampF (n lo hi : Int) : Int := if hi < lo ∨ n < lo then lo else if n > hi then hi else n
end Go.Proofs.Ytbijbohkpjnjnaa

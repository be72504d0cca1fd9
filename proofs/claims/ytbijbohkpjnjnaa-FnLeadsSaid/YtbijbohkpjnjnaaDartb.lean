/- What the functions on darts return, in the program and in the reference. No condition but that a window has at most 1048576 leads. -/
import Derived.Test.YtbijbohkpjnjnaaDart
namespace Go.Proofs.Ytbijbohkpjnjnaa
open Go.ChangeShapes Go.WideShapes Go.ChangeAt Go.RowKit
set_option maxHeartbeats 1000000
set_option linter.unusedSimpArgs false
set_option linter.unusedVariables false
def isDart (ns ls : List (Int × Int)) (d : Int) : Bool := winOkB ns ls && inB d 0 (2 * (ls.length : Int) - 1)
def dFrom (ls : List (Int × Int)) (d : Int) : Int := if d % 2 = 0 then (ptN ls (d / 2).toNat).1 else (ptN ls (d / 2).toNat).2
def dTo (ls : List (Int × Int)) (d : Int) : Int := if d % 2 = 0 then (ptN ls (d / 2).toNat).2 else (ptN ls (d / 2).toNat).1
theorem win_leads {ns ls : List (Int × Int)} (h : winOkB ns ls = true) : ls.length ≤ 20 ∧ ns.length ≤ 12 ∧ 1 ≤ ns.length := by
  simp only [winOkB, Bool.and_eq_true, decide_eq_true_iff, inB] at h; omega
theorem dart_bd {ns ls : List (Int × Int)} {d : Int} (h : isDart ns ls d = true) : 0 ≤ d ∧ d < 2 * (ls.length : Int) ∧ d ≤ 39 := by
  simp only [isDart, Bool.and_eq_true] at h
  have := win_leads h.1
  simp only [inB, decide_eq_true_iff] at h
  omega
theorem dTo_eq (ls : List (Int × Int)) (d : Int) (h : 0 ≤ d) : dFrom ls (if d % 2 = 0 then d + 1 else d - 1) = dTo ls d := by
  unfold dFrom dTo
  by_cases e : d % 2 = 0
  · rw [if_pos e, if_pos e, if_neg (by omega), show (d + 1) / 2 = d / 2 by omega]
  · rw [if_neg e, if_neg e, if_pos (by omega), show (d - 1) / 2 = d / 2 by omega]
theorem xor_one (d : Int) (h0 : 0 ≤ d) (h1 : d ≤ 100) : bits .xor .i64 d 1 = if d % 2 = 0 then d + 1 else d - 1 := by
  have : ∀ k : Fin 101, bits .xor .i64 (k.val : Int) 1 = if (k.val : Int) % 2 = 0 then (k.val : Int) + 1 else (k.val : Int) - 1 := by decide +kernel
  have := this ⟨d.toNat, by omega⟩
  rw [show ((d.toNat : Nat) : Int) = d by omega] at this
  exact this
def dfF (ns ls : List (Int × Int)) (d : Int) : Int := if isDart ns ls d then dFrom ls d else -1
def dtF (ns ls : List (Int × Int)) (d : Int) : Int := if isDart ns ls d then dTo ls d else -1
end Go.Proofs.Ytbijbohkpjnjnaa

/- When two leads cross, as a plain function of their ends; small facts on turns. No condition. -/
import Derived.Test.YtbijbohkpjnjnaaOn
namespace Go.Proofs.Ytbijbohkpjnjnaa
open Go.ChangeShapes Go.WideShapes Go.ChangeAt Go.RowKit
set_option linter.unusedVariables false

def sameB (a b c d : Int × Int) : Bool := (eqP a.1 a.2 c.1 c.2 && eqP b.1 b.2 d.1 d.2) || (eqP a.1 a.2 d.1 d.2 && eqP b.1 b.2 c.1 c.2)
def midB (a b c d : Int × Int) : Bool := betw a.1 a.2 b.1 b.2 c.1 c.2 || (betw a.1 a.2 b.1 b.2 d.1 d.2 || (betw c.1 c.2 d.1 d.2 a.1 a.2 || betw c.1 c.2 d.1 d.2 b.1 b.2))
def tn3 (a b c : Int × Int) : Int := tn a.1 a.2 b.1 b.2 c.1 c.2
def overB (a b c d : Int × Int) : Bool := decide (tn3 a b c * tn3 a b d < 0) && decide (tn3 c d a * tn3 c d b < 0)
def crossB (a b c d : Int × Int) : Bool := sameB a b c d || (midB a b c d || overB a b c d)
def doCrossB (ns : List (Int × Int)) (f t g u : Int) : Bool := leadOkB ns f t && leadOkB ns g u && crossB (atP ns f) (atP ns t) (atP ns g) (atP ns u)
def sgn (n : Int) : Int := if n < 0 then -1 else if n > 0 then 1 else 0
theorem tn_aba (ax ay bx by' : Int) : tn ax ay bx by' ax ay = 0 := by simp [tn]
theorem tn_abb (ax ay bx by' : Int) : tn ax ay bx by' bx by' = 0 := by unfold tn; rw [Int.mul_comm (by' - ay)]; omega
theorem sgn_mul (x y : Int) : decide (sgn x * sgn y < 0) = decide (x * y < 0) := by
  rw [Bool.eq_iff_iff, decide_eq_true_iff, decide_eq_true_iff]
  unfold sgn
  rcases Int.lt_trichotomy x 0 with h | h | h <;> rcases Int.lt_trichotomy y 0 with k | k | k
  · have := Int.mul_pos_of_neg_of_neg h k; simp [h, k]; omega
  · subst k; simp
  · have := Int.mul_neg_of_neg_of_pos h k; simp [h, k, show ¬ y < 0 by omega]; omega
  · subst h; simp
  · subst h; simp
  · subst h; simp
  · have := Int.mul_neg_of_pos_of_neg h k; simp [h, k, show ¬ x < 0 by omega]; omega
  · subst k; simp
  · have := Int.mul_pos h k; simp [h, k, show ¬ y < 0 by omega, show ¬ x < 0 by omega]; omega
theorem eqP_eq {a b c d : Int} (h : eqP a b c d = true) : a = c ∧ b = d := by simpa [eqP] using h
theorem eqP_comm (a b c d : Int) : eqP a b c d = eqP c d a b := by
  rw [Bool.eq_iff_iff]; simp only [eqP, decide_eq_true_iff]; omega
/-- where the leads share an end, the sides multiply to 0 -/
theorem over_shared (ax ay bx by' cx cy dx dy : Int) (h : (eqP ax ay cx cy || eqP ax ay dx dy || eqP bx by' cx cy || eqP bx by' dx dy) = true) : tn ax ay bx by' cx cy * tn ax ay bx by' dx dy = 0 := by
  simp only [Bool.or_eq_true] at h
  rcases h with ((h | h) | h) | h <;> obtain ⟨rfl, rfl⟩ := eqP_eq h
  · rw [tn_aba, Int.zero_mul]
  · rw [tn_aba, Int.mul_zero]
  · rw [tn_abb, Int.zero_mul]
  · rw [tn_abb, Int.mul_zero]
theorem tn_bd {ax ay bx by' cx cy : Int} (h : okAll [(ax, ay), (bx, by'), (cx, cy)] = true) : -800 ≤ tn ax ay bx by' cx cy ∧ tn ax ay bx by' cx cy ≤ 800 := by
  obtain ⟨⟨_, _⟩, ⟨_, _⟩, ⟨_, _⟩, ⟨_, _⟩, ⟨_, _⟩, ⟨_, _⟩⟩ := ok3 h
  have p1 := prod_bd (a := bx - ax) (b := cy - ay) (m := 20) (n := 20) (by omega) (by omega) (by omega)
  have p2 := prod_bd (a := by' - ay) (b := cx - ax) (m := 20) (n := 20) (by omega) (by omega) (by omega)
  unfold tn; omega
theorem mul_wrap {x y : Int} (hx : -800 ≤ x ∧ x ≤ 800) (hy : -800 ≤ y ∧ y ≤ 800) : -640000 ≤ x * y ∧ x * y ≤ 640000 := by
  have := prod_bd (a := x) (b := y) (m := 800) (n := 800) (by omega) hx hy
  omega
end Go.Proofs.Ytbijbohkpjnjnaa

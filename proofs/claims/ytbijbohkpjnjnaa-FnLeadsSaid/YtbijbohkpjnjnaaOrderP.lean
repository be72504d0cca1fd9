/- The plain law of directions: around a node, the directions to two other nodes have an order, and two darts of a valid window at one node never have the same direction. No program in sight. -/
import Derived.Test.YtbijbohkpjnjnaaPure
namespace Go.Proofs.Ytbijbohkpjnjnaa
set_option linter.unusedSimpArgs false
set_option linter.unusedVariables false
/-- the vector lies in the upper half (0) -/
def up (x y : Int) : Prop := y > 0 ∨ (y = 0 ∧ x > 0)
theorem pos_of_mul {t v : Int} (hv : 0 < v) (h : 0 < t * v) : 0 < t := by
  rcases Int.lt_or_le 0 t with h1 | h1
  · exact h1
  · have := Int.mul_le_mul_of_nonneg_right h1 (Int.le_of_lt hv)
    rw [Int.zero_mul] at this; omega
theorem cross_id (ux uy vx vy wx wy : Int) : (ux * wy - uy * wx) * vy = (ux * vy - uy * vx) * wy + (vx * wy - vy * wx) * uy := by
  grind
theorem tri0 {ux uy vx vy wx wy : Int} (hu : up ux uy) (hv : up vx vy) (hw : up wx wy) (h1 : 0 < ux * vy - uy * vx) (h2 : 0 < vx * wy - vy * wx) : 0 < ux * wy - uy * wx := by
  unfold up at hu hv hw
  have hid := cross_id ux uy vx vy wx wy
  rcases hv with hv | ⟨hv, hv2⟩
  · apply pos_of_mul hv
    rw [hid]
    rcases hu with hu | ⟨hu, hu2⟩
    · have a := Int.mul_pos h2 hu
      have hwy : 0 ≤ wy := by omega
      have b := Int.mul_nonneg (Int.le_of_lt h1) hwy
      omega
    · rcases hw with hw | ⟨hw, hw2⟩
      · have a := Int.mul_pos h1 hw
        have z : (vx * wy - vy * wx) * uy = 0 := by rw [hu, Int.mul_zero]
        omega
      · exfalso
        rw [hw, Int.mul_zero] at h2
        have := Int.mul_pos hv hw2
        omega
  · exfalso
    rw [hv, Int.mul_zero] at h1
    have huy : uy < 0 := by
      rcases Int.lt_or_le uy 0 with h | h
      · exact h
      · have := Int.mul_nonneg h (Int.le_of_lt hv2); omega
    omega
theorem neg_cross (ux uy vx vy : Int) : (-ux) * (-vy) - (-uy) * (-vx) = ux * vy - uy * vx := by grind
/-- the vector lies in the lower half -/
def dn (x y : Int) : Prop := y < 0 ∨ (y = 0 ∧ x < 0)
theorem dn_up {x y : Int} (h : dn x y) : up (-x) (-y) := by unfold dn at h; unfold up; omega
theorem tri1 {ux uy vx vy wx wy : Int} (hu : dn ux uy) (hv : dn vx vy) (hw : dn wx wy) (h1 : 0 < ux * vy - uy * vx) (h2 : 0 < vx * wy - vy * wx) : 0 < ux * wy - uy * wx := by
  rw [← neg_cross] at h1 h2 ⊢
  exact tri0 (dn_up hu) (dn_up hv) (dn_up hw) h1 h2
/-- two vectors of the upper half whose cross product is 0: one lies within the box of the other -/
theorem same0 {ux uy vx vy : Int} (hu : up ux uy) (hv : up vx vy) (h : ux * vy - uy * vx = 0) (hle : vy < uy ∨ (vy = uy ∧ (uy ≠ 0 ∨ vx ≤ ux))) : min 0 ux ≤ vx ∧ vx ≤ max 0 ux ∧ min 0 uy ≤ vy ∧ vy ≤ max 0 uy := by
  unfold up at hu hv
  have huy : 0 ≤ uy := by omega
  have hvy : 0 ≤ vy := by omega
  rcases hu with hu | ⟨hu, hu2⟩
  · have hy : vy ≤ uy := by omega
    -- uy * vx = ux * vy
    have e : uy * vx = ux * vy := by omega
    rcases Int.le_total 0 ux with hx | hx
    · have a := Int.mul_nonneg hx hvy
      have hvx : 0 ≤ vx := by
        rcases Int.lt_or_le vx 0 with h' | h'
        · have := Int.mul_neg_of_pos_of_neg hu h'; omega
        · exact h'
      have b : ux * vy ≤ ux * uy := Int.mul_le_mul_of_nonneg_left hy hx
      have hvx2 : vx ≤ ux := by
        rcases Int.lt_or_le ux vx with h' | h'
        · have := Int.mul_lt_mul_of_pos_left h' hu
          rw [Int.mul_comm uy ux] at this; omega
        · exact h'
      omega
    · have a := Int.mul_nonneg (show 0 ≤ -ux by omega) hvy
      rw [Int.neg_mul] at a
      have hvx : vx ≤ 0 := by
        rcases Int.lt_or_le 0 vx with h' | h'
        · have := Int.mul_pos hu h'; omega
        · exact h'
      have b : (-ux) * vy ≤ (-ux) * uy := Int.mul_le_mul_of_nonneg_left hy (by omega)
      rw [Int.neg_mul, Int.neg_mul] at b
      have hvx2 : ux ≤ vx := by
        rcases Int.lt_or_le vx ux with h' | h'
        · have := Int.mul_lt_mul_of_pos_left h' hu
          rw [Int.mul_comm uy ux] at this; omega
        · exact h'
      omega
  · subst hu
    have hvy0 : vy = 0 := by omega
    subst hvy0
    omega
theorem half_up (ax ay bx by' : Int) : half ax ay bx by' = 0 ↔ up (bx - ax) (by' - ay) := by
  unfold half up; split
  · simp; omega
  · simp; omega
theorem half_dn (ax ay bx by' : Int) (hne : ¬ (ax = bx ∧ ay = by')) : ¬ half ax ay bx by' = 0 ↔ dn (bx - ax) (by' - ay) := by
  unfold half dn; split
  · simp; omega
  · simp; omega
theorem half_bd (ax ay bx by' : Int) : half ax ay bx by' = 0 ∨ half ax ay bx by' = 1 := by unfold half; split <;> simp
/-- the order of directions, without the test that the nodes are valid -/
def bef0 (a b c : Int × Int) : Bool := decide (half a.1 a.2 b.1 b.2 < half a.1 a.2 c.1 c.2) || (decide (half a.1 a.2 b.1 b.2 = half a.1 a.2 c.1 c.2) && decide (tn a.1 a.2 b.1 b.2 c.1 c.2 > 0))
theorem bef_bef0 {a b c : Int × Int} (h : okAll [a, b, c] = true) : bef a.1 a.2 b.1 b.2 c.1 c.2 = bef0 a b c := by
  have h' : okAll [(a.1, a.2), (b.1, b.2), (c.1, c.2)] = true := h
  unfold bef bef0; rw [h']; rfl
theorem tn_anti (ax ay bx by' cx cy : Int) : tn ax ay cx cy bx by' = -tn ax ay bx by' cx cy := by unfold tn; grind
theorem bef0_iff (a b c : Int × Int) : bef0 a b c = true ↔ half a.1 a.2 b.1 b.2 < half a.1 a.2 c.1 c.2 ∨ (half a.1 a.2 b.1 b.2 = half a.1 a.2 c.1 c.2 ∧ tn a.1 a.2 b.1 b.2 c.1 c.2 > 0) := by
  unfold bef0; simp
theorem bef0_asym {a b c : Int × Int} (h : bef0 a b c = true) : bef0 a c b = false := by
  cases h2 : bef0 a c b
  · rfl
  · rw [bef0_iff] at h h2
    have := tn_anti a.1 a.2 b.1 b.2 c.1 c.2
    omega
theorem bef0_total {a b c : Int × Int} (h : ¬ (half a.1 a.2 b.1 b.2 = half a.1 a.2 c.1 c.2 ∧ tn a.1 a.2 b.1 b.2 c.1 c.2 = 0)) : bef0 a b c = true ∨ bef0 a c b = true := by
  rw [bef0_iff, bef0_iff]
  have := tn_anti a.1 a.2 b.1 b.2 c.1 c.2
  omega
theorem bef0_trans {a b c d : Int × Int} (hb : a ≠ b) (hc : a ≠ c) (hd : a ≠ d) (h1 : bef0 a b c = true) (h2 : bef0 a c d = true) : bef0 a b d = true := by
  rw [bef0_iff] at h1 h2 ⊢
  have ne : ∀ {p q : Int × Int}, p ≠ q → ¬ (p.1 = q.1 ∧ p.2 = q.2) := fun h e => h (Prod.ext e.1 e.2)
  have hb' := half_bd a.1 a.2 b.1 b.2
  have hc' := half_bd a.1 a.2 c.1 c.2
  have hd' := half_bd a.1 a.2 d.1 d.2
  rcases h1 with h1 | ⟨h1, t1⟩
  · left
    rcases h2 with h2 | ⟨h2, _⟩ <;> omega
  · rcases h2 with h2 | ⟨h2, t2⟩
    · left; omega
    · right
      refine ⟨h1.trans h2, ?_⟩
      unfold tn at t1 t2 ⊢
      by_cases h0 : half a.1 a.2 b.1 b.2 = 0
      · exact tri0 ((half_up ..).1 h0) ((half_up ..).1 (h1 ▸ h0)) ((half_up ..).1 ((h1.trans h2) ▸ h0)) t1 t2
      · exact tri1 ((half_dn _ _ _ _ (ne hb)).1 h0) ((half_dn _ _ _ _ (ne hc)).1 (h1 ▸ h0)) ((half_dn _ _ _ _ (ne hd)).1 ((h1.trans h2) ▸ h0)) t1 t2
/-- the same direction: one of the two lies between -/
theorem same_dir {a b c : Int × Int} (hb : a ≠ b) (hc : a ≠ c) (hbc : b ≠ c) (hh : half a.1 a.2 b.1 b.2 = half a.1 a.2 c.1 c.2) (ht : tn a.1 a.2 b.1 b.2 c.1 c.2 = 0) :
    (min a.1 b.1 ≤ c.1 ∧ c.1 ≤ max a.1 b.1 ∧ min a.2 b.2 ≤ c.2 ∧ c.2 ≤ max a.2 b.2) ∨ (min a.1 c.1 ≤ b.1 ∧ b.1 ≤ max a.1 c.1 ∧ min a.2 c.2 ≤ b.2 ∧ b.2 ≤ max a.2 c.2) := by
  have ne : ∀ {p q : Int × Int}, p ≠ q → ¬ (p.1 = q.1 ∧ p.2 = q.2) := fun h e => h (Prod.ext e.1 e.2)
  unfold tn at ht
  have ht2 : (c.1 - a.1) * (b.2 - a.2) - (c.2 - a.2) * (b.1 - a.1) = 0 := by
    rw [Int.mul_comm (c.1 - a.1), Int.mul_comm (c.2 - a.2)]; omega
  by_cases h0 : half a.1 a.2 b.1 b.2 = 0
  · have ub := (half_up ..).1 h0
    have uc := (half_up ..).1 (hh ▸ h0)
    by_cases hle : c.2 - a.2 < b.2 - a.2 ∨ (c.2 - a.2 = b.2 - a.2 ∧ (b.2 - a.2 ≠ 0 ∨ c.1 - a.1 ≤ b.1 - a.1))
    · have := same0 ub uc ht hle
      left; omega
    · have := same0 uc ub ht2 (by omega)
      right; omega
  · have db := (half_dn _ _ _ _ (ne hb)).1 h0
    have dc := (half_dn _ _ _ _ (ne hc)).1 (hh ▸ h0)
    have e1 : (-(b.1 - a.1)) * (-(c.2 - a.2)) - (-(b.2 - a.2)) * (-(c.1 - a.1)) = 0 := by rw [neg_cross]; exact ht
    have e2 : (-(c.1 - a.1)) * (-(b.2 - a.2)) - (-(c.2 - a.2)) * (-(b.1 - a.1)) = 0 := by rw [neg_cross]; exact ht2
    by_cases hle : -(c.2 - a.2) < -(b.2 - a.2) ∨ (-(c.2 - a.2) = -(b.2 - a.2) ∧ (-(b.2 - a.2) ≠ 0 ∨ -(c.1 - a.1) ≤ -(b.1 - a.1)))
    · have := same0 (dn_up db) (dn_up dc) e1 hle
      left; omega
    · have := same0 (dn_up dc) (dn_up db) e2 (by omega)
      right; omega
end Go.Proofs.Ytbijbohkpjnjnaa

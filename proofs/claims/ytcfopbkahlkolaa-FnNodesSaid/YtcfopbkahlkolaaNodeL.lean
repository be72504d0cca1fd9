/- What the law FnNodes asks of three nodes. No program in sight. -/
import Derived.Test.YtcfopbkahlkolaaOrderP
namespace Go.Proofs.Ytcfopbkahlkolaa
set_option maxHeartbeats 1000000
set_option linter.unusedSimpArgs false
set_option linter.unusedVariables false
theorem tn_turn (ax ay bx by' cx cy : Int) : tn bx by' cx cy ax ay = tn ax ay bx by' cx cy := by unfold tn; grind
theorem ok_swap (a b c : Int × Int) : okAll [a, c, b] = okAll [a, b, c] := by
  simp only [okAll, List.all_cons, List.all_nil, Bool.and_true]
  cases nodeOkB a.1 a.2 <;> cases nodeOkB b.1 b.2 <;> cases nodeOkB c.1 c.2 <;> rfl
theorem ok_turn (a b c : Int × Int) : okAll [b, c, a] = okAll [a, b, c] := by
  simp only [okAll, List.all_cons, List.all_nil, Bool.and_true]
  cases nodeOkB a.1 a.2 <;> cases nodeOkB b.1 b.2 <;> cases nodeOkB c.1 c.2 <;> rfl
theorem ok_front (a b c : Int × Int) : okAll [b, a, c] = okAll [a, b, c] := by
  simp only [okAll, List.all_cons, List.all_nil, Bool.and_true]
  cases nodeOkB a.1 a.2 <;> cases nodeOkB b.1 b.2 <;> cases nodeOkB c.1 c.2 <;> rfl
theorem turn_back (ax ay bx by' cx cy : Int) : turnF ax ay cx cy bx by' = -turnF ax ay bx by' cx cy := by
  unfold turnF
  rw [ok_swap (ax, ay) (bx, by') (cx, cy), tn_anti]
  split <;> omega
theorem turn_round (ax ay bx by' cx cy : Int) : turnF bx by' cx cy ax ay = turnF ax ay bx by' cx cy := by
  unfold turnF
  rw [ok_turn (ax, ay) (bx, by') (cx, cy), tn_turn]
theorem len_back (ax ay bx by' : Int) : lenSq bx by' ax ay = lenSq ax ay bx by' := by
  unfold lenSq
  have e : okAll [(bx, by'), (ax, ay)] = okAll [(ax, ay), (bx, by')] := by
    simp only [okAll, List.all_cons, List.all_nil, Bool.and_true]
    cases nodeOkB ax ay <;> cases nodeOkB bx by' <;> rfl
  have e2 : (ax - bx) * (ax - bx) + (ay - by') * (ay - by') = (bx - ax) * (bx - ax) + (by' - ay) * (by' - ay) := by grind
  rw [e, e2]
theorem sq_zero {x y : Int} (h : x * x + y * y = 0) : x = 0 ∧ y = 0 := by
  have a : 0 ≤ x * x := by rcases Int.le_total 0 x with q | q; exact Int.mul_nonneg q q; exact Int.mul_nonneg_of_nonpos_of_nonpos q q
  have b : 0 ≤ y * y := by rcases Int.le_total 0 y with q | q; exact Int.mul_nonneg q q; exact Int.mul_nonneg_of_nonpos_of_nonpos q q
  have c : x * x = 0 := by omega
  have d : y * y = 0 := by omega
  exact ⟨by rcases Int.mul_eq_zero.1 c with q | q <;> exact q, by rcases Int.mul_eq_zero.1 d with q | q <;> exact q⟩
theorem len_zero {ax ay bx by' : Int} (h : okAll [(ax, ay), (bx, by')] = true) : lenSq ax ay bx by' = 0 ↔ eqP ax ay bx by' = true := by
  unfold lenSq eqP
  rw [if_pos h, decide_eq_true_iff]
  constructor
  · intro e
    have := sq_zero e
    omega
  · rintro ⟨rfl, rfl⟩
    simp
theorem len_bd {ax ay bx by' : Int} (h : okAll [(ax, ay), (bx, by')] = true) : 0 ≤ lenSq ax ay bx by' ∧ lenSq ax ay bx by' ≤ 800 := by
  obtain ⟨h1, h2, h3, h4⟩ := ok2 h
  unfold lenSq
  rw [if_pos h]
  have p := prod_bd (a := bx - ax) (b := bx - ax) (m := 20) (n := 20) (by omega) (by omega) (by omega)
  have q := prod_bd (a := by' - ay) (b := by' - ay) (m := 20) (n := 20) (by omega) (by omega) (by omega)
  have a : 0 ≤ (bx - ax) * (bx - ax) := by rcases Int.le_total 0 (bx - ax) with q | q; exact Int.mul_nonneg q q; exact Int.mul_nonneg_of_nonpos_of_nonpos q q
  have b : 0 ≤ (by' - ay) * (by' - ay) := by rcases Int.le_total 0 (by' - ay) with q | q; exact Int.mul_nonneg q q; exact Int.mul_nonneg_of_nonpos_of_nonpos q q
  omega
theorem betw_iff (ax ay bx by' cx cy : Int) : betw ax ay bx by' cx cy = true ↔ okAll [(ax, ay), (bx, by'), (cx, cy)] = true ∧ ¬ (ax = bx ∧ ay = by') ∧ ¬ (ax = cx ∧ ay = cy) ∧ ¬ (bx = cx ∧ by' = cy) ∧ tn ax ay bx by' cx cy = 0 ∧ (min ax bx ≤ cx ∧ cx ≤ max ax bx) ∧ (min ay by' ≤ cy ∧ cy ≤ max ay by') := by
  unfold betw eqP inB
  simp only [Bool.and_eq_true, Bool.not_eq_true', decide_eq_false_iff_not, decide_eq_true_iff, and_assoc]
theorem betw_law {ax ay bx by' cx cy : Int} (h : betw ax ay bx by' cx cy = true) : turnF ax ay bx by' cx cy = 0 ∧ betw bx by' ax ay cx cy = true ∧ betw ax ay cx cy bx by' = false := by
  have hb := h
  rw [betw_iff] at hb
  obtain ⟨h1, h2, h3, h4, h5, h6, h7⟩ := hb
  refine ⟨by unfold turnF; rw [if_pos h1]; exact h5, ?_, ?_⟩
  · rw [betw_iff]
    refine ⟨by rw [ok_front (ax, ay) (bx, by') (cx, cy)]; exact h1, by omega, by omega, by omega, ?_, by omega, by omega⟩
    have : tn bx by' ax ay cx cy = -tn ax ay bx by' cx cy := by unfold tn; grind
    omega
  · rw [← Bool.not_eq_true, betw_iff]
    rintro ⟨_, _, _, _, _, g6, g7⟩
    omega
theorem bef_law {ax ay bx by' cx cy : Int} (h : okAll [(ax, ay), (bx, by'), (cx, cy)] = true) :
    ¬ (bef ax ay bx by' cx cy = true ∧ bef ax ay cx cy bx by' = true) ∧ ((bef ax ay bx by' cx cy = false ∧ bef ax ay cx cy bx by' = false) ↔ (turnF ax ay bx by' cx cy = 0 ∧ half ax ay bx by' = half ax ay cx cy)) := by
  have e1 : bef ax ay bx by' cx cy = bef0 (ax, ay) (bx, by') (cx, cy) := bef_bef0 (a := (ax, ay)) (b := (bx, by')) (c := (cx, cy)) h
  have e2 : bef ax ay cx cy bx by' = bef0 (ax, ay) (cx, cy) (bx, by') := bef_bef0 (a := (ax, ay)) (b := (cx, cy)) (c := (bx, by')) (by rw [ok_swap (ax, ay) (bx, by') (cx, cy)]; exact h)
  have e3 : turnF ax ay bx by' cx cy = tn ax ay bx by' cx cy := by unfold turnF; rw [if_pos h]
  have ta := tn_anti ax ay bx by' cx cy
  rw [e1, e2, e3]
  constructor
  · rintro ⟨p, q⟩
    rw [bef0_asym p] at q; cases q
  · rw [← Bool.not_eq_true, ← Bool.not_eq_true, bef0_iff, bef0_iff]
    show (¬ (half ax ay bx by' < half ax ay cx cy ∨ (half ax ay bx by' = half ax ay cx cy ∧ tn ax ay bx by' cx cy > 0)) ∧ ¬ (half ax ay cx cy < half ax ay bx by' ∨ (half ax ay cx cy = half ax ay bx by' ∧ tn ax ay cx cy bx by' > 0))) ↔ _
    omega
theorem half_law (ax ay bx by' : Int) : half ax ay bx by' = half bx by' ax ay ↔ eqP ax ay bx by' = true := by
  unfold half eqP
  rw [decide_eq_true_iff]
  split <;> split <;> omega
theorem ok_small {ax ay bx by' cx cy : Int} (ha : 0 ≤ ax ∧ ax ≤ 12 ∧ 0 ≤ ay ∧ ay ≤ 12) (hb : 0 ≤ bx ∧ bx ≤ 12 ∧ 0 ≤ by' ∧ by' ≤ 12) (hc : 0 ≤ cx ∧ cx ≤ 12 ∧ 0 ≤ cy ∧ cy ≤ 12) : okAll [(ax, ay), (bx, by'), (cx, cy)] = true ∧ okAll [(ax, ay), (bx, by')] = true ∧ nodeOkB ax ay = true := by
  simp only [okAll, nodeOkB, inB, List.all_cons, List.all_nil, Bool.and_eq_true, decide_eq_true_iff, Bool.and_true]
  omega
theorem turn_bd {ax ay bx by' cx cy : Int} (h : okAll [(ax, ay), (bx, by'), (cx, cy)] = true) : -800 ≤ turnF ax ay bx by' cx cy ∧ turnF ax ay bx by' cx cy ≤ 800 := by
  unfold turnF
  rw [if_pos h]
  obtain ⟨⟨_, _⟩, ⟨_, _⟩, ⟨_, _⟩, ⟨_, _⟩, ⟨_, _⟩, ⟨_, _⟩⟩ := ok3 h
  have p1 := prod_bd (a := bx - ax) (b := cy - ay) (m := 20) (n := 20) (by omega) (by omega) (by omega)
  have p2 := prod_bd (a := by' - ay) (b := cx - ax) (m := 20) (n := 20) (by omega) (by omega) (by omega)
  unfold tn; omega
end Go.Proofs.Ytcfopbkahlkolaa

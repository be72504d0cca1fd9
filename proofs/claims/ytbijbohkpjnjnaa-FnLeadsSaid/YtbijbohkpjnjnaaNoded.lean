/- What IsBetween of the reference and IsBeforeAround return, for all arguments. No condition. -/
import Derived.Test.YtbijbohkpjnjnaaNodec
namespace Go.Proofs.Ytbijbohkpjnjnaa
open Go.ChangeShapes Go.WideShapes Go.ChangeAt Go.RowKit
set_option maxHeartbeats 400000

theorem sBetw_no1 (ax ay bx by' cx cy : Int) (w : World) (h1 : nodeOkB ax ay = false) : Calls Try.prog 39 #[.agg #[.int .i64 ax, .int .i64 ay], .agg #[.int .i64 bx, .int .i64 by'], .agg #[.int .i64 cx, .int .i64 cy]] w fun e w' => e = .returned (.bool (betw ax ay bx by' cx cy)) ∧ Below w.heap.size w w' := by
  go_enter Try.func39, Try.ntmps39
  go_wp2_with fail
  refine (sNodeOk_any _ _ _).mono ?_
  rintro e w1 ⟨rfl, hb1⟩
  rw [h1]
  obtain ⟨hc1, hf1⟩ := bcell hb1
  obtain ⟨z1a, z1b, z1c⟩ : w.heap.size < w1.heap.size ∧ w.heap.size + 1 < w1.heap.size ∧ w.heap.size + 1 + 1 < w1.heap.size := by have := hb1.size; simp at this; omega
  go_wp2
  go_ret
  exact ⟨ret_bool (by simp [betw, okAll3, h1]), (then_ ((((Below.refl _ _).alloc (Nat.le_refl _) _).alloc (by simp) _).alloc (by simp; omega) _) hb1 (by simp; omega))⟩
theorem sBetw_no2 (ax ay bx by' cx cy : Int) (w : World) (h1 : nodeOkB ax ay = true) (h2 : nodeOkB bx by' = false) : Calls Try.prog 39 #[.agg #[.int .i64 ax, .int .i64 ay], .agg #[.int .i64 bx, .int .i64 by'], .agg #[.int .i64 cx, .int .i64 cy]] w fun e w' => e = .returned (.bool (betw ax ay bx by' cx cy)) ∧ Below w.heap.size w w' := by
  go_enter Try.func39, Try.ntmps39
  go_wp2_with fail
  refine (sNodeOk_any _ _ _).mono ?_
  rintro e w1 ⟨rfl, hb1⟩
  rw [h1]
  obtain ⟨hc1, hf1⟩ := bcell hb1
  obtain ⟨z1a, z1b, z1c⟩ : w.heap.size < w1.heap.size ∧ w.heap.size + 1 < w1.heap.size ∧ w.heap.size + 1 + 1 < w1.heap.size := by have := hb1.size; simp at this; omega
  go_wp2_with fail
  refine (sNodeOk_any _ _ _).mono ?_
  rintro e w2 ⟨rfl, hb2⟩
  rw [h2]
  obtain ⟨hc2, hf2⟩ := bcell hb2
  obtain ⟨z2a, z2b, z2c⟩ : w.heap.size < w2.heap.size ∧ w.heap.size + 1 < w2.heap.size ∧ w.heap.size + 1 + 1 < w2.heap.size := by have := hb2.size; omega
  go_wp2
  go_ret
  exact ⟨ret_bool (by simp [betw, okAll3, h1, h2]), (then_ (then_ ((((Below.refl _ _).alloc (Nat.le_refl _) _).alloc (by simp) _).alloc (by simp; omega) _) hb1 (by simp; omega)) hb2 (by omega))⟩
theorem sBetw_no3 (ax ay bx by' cx cy : Int) (w : World) (h1 : nodeOkB ax ay = true) (h2 : nodeOkB bx by' = true) (h3 : nodeOkB cx cy = false) : Calls Try.prog 39 #[.agg #[.int .i64 ax, .int .i64 ay], .agg #[.int .i64 bx, .int .i64 by'], .agg #[.int .i64 cx, .int .i64 cy]] w fun e w' => e = .returned (.bool (betw ax ay bx by' cx cy)) ∧ Below w.heap.size w w' := by
  go_enter Try.func39, Try.ntmps39
  go_wp2_with fail
  refine (sNodeOk_any _ _ _).mono ?_
  rintro e w1 ⟨rfl, hb1⟩
  rw [h1]
  obtain ⟨hc1, hf1⟩ := bcell hb1
  obtain ⟨z1a, z1b, z1c⟩ : w.heap.size < w1.heap.size ∧ w.heap.size + 1 < w1.heap.size ∧ w.heap.size + 1 + 1 < w1.heap.size := by have := hb1.size; simp at this; omega
  go_wp2_with fail
  refine (sNodeOk_any _ _ _).mono ?_
  rintro e w2 ⟨rfl, hb2⟩
  rw [h2]
  obtain ⟨hc2, hf2⟩ := bcell hb2
  obtain ⟨z2a, z2b, z2c⟩ : w.heap.size < w2.heap.size ∧ w.heap.size + 1 < w2.heap.size ∧ w.heap.size + 1 + 1 < w2.heap.size := by have := hb2.size; omega
  go_wp2_with fail
  refine (sNodeOk_any _ _ _).mono ?_
  rintro e w3 ⟨rfl, hb3⟩
  rw [h3]
  obtain ⟨hc3, hf3⟩ := bcell hb3
  obtain ⟨z3a, z3b, z3c⟩ : w.heap.size < w3.heap.size ∧ w.heap.size + 1 < w3.heap.size ∧ w.heap.size + 1 + 1 < w3.heap.size := by have := hb3.size; omega
  go_wp2
  go_ret
  exact ⟨ret_bool (by simp [betw, okAll3, h1, h2, h3]), (then_ (then_ (then_ ((((Below.refl _ _).alloc (Nat.le_refl _) _).alloc (by simp) _).alloc (by simp; omega) _) hb1 (by simp; omega)) hb2 (by omega)) hb3 (by omega))⟩
theorem sBetw_yes (ax ay bx by' cx cy : Int) (w : World) (h1 : nodeOkB ax ay = true) (h2 : nodeOkB bx by' = true) (h3 : nodeOkB cx cy = true) : Calls Try.prog 39 #[.agg #[.int .i64 ax, .int .i64 ay], .agg #[.int .i64 bx, .int .i64 by'], .agg #[.int .i64 cx, .int .i64 cy]] w fun e w' => e = .returned (.bool (betw ax ay bx by' cx cy)) ∧ Below w.heap.size w w' := by
  have h : okAll [(ax, ay), (bx, by'), (cx, cy)] = true := by simp [okAll3, h1, h2, h3]
  have H := hid h
  clear h
  have heq := eql_node
  go_enter Try.func39, Try.ntmps39
  go_wp2_with fail
  refine (sNodeOk_any _ _ _).mono ?_
  rintro e w1 ⟨rfl, hb1⟩
  rw [h1]
  obtain ⟨hc1, hf1⟩ := bcell hb1
  obtain ⟨z1a, z1b, z1c⟩ : w.heap.size < w1.heap.size ∧ w.heap.size + 1 < w1.heap.size ∧ w.heap.size + 1 + 1 < w1.heap.size := by have := hb1.size; simp at this; omega
  go_wp2_with fail
  refine (sNodeOk_any _ _ _).mono ?_
  rintro e w2 ⟨rfl, hb2⟩
  rw [h2]
  obtain ⟨hc2, hf2⟩ := bcell hb2
  obtain ⟨z2a, z2b, z2c⟩ : w.heap.size < w2.heap.size ∧ w.heap.size + 1 < w2.heap.size ∧ w.heap.size + 1 + 1 < w2.heap.size := by have := hb2.size; omega
  go_wp2_with fail
  refine (sNodeOk_any _ _ _).mono ?_
  rintro e w3 ⟨rfl, hb3⟩
  rw [h3]
  obtain ⟨hc3, hf3⟩ := bcell hb3
  obtain ⟨z3a, z3b, z3c⟩ : w.heap.size < w3.heap.size ∧ w.heap.size + 1 < w3.heap.size ∧ w.heap.size + 1 + 1 < w3.heap.size := by have := hb3.size; omega
  cases e1 : eqP ax ay bx by'
  rotate_left
  · go_wp2
    go_ret
    exact ⟨ret_bool (by simp [betw, e1]), (then_ (then_ (then_ ((((Below.refl _ _).alloc (Nat.le_refl _) _).alloc (by simp) _).alloc (by simp; omega) _) hb1 (by simp; omega)) hb2 (by omega)) hb3 (by omega))⟩
  cases e3 : eqP bx by' cx cy
  rotate_left
  · go_wp2
    go_ret
    exact ⟨ret_bool (by simp [betw, e3]), (then_ (then_ (then_ ((((Below.refl _ _).alloc (Nat.le_refl _) _).alloc (by simp) _).alloc (by simp; omega) _) hb1 (by simp; omega)) hb2 (by omega)) hb3 (by omega))⟩
  cases e2 : eqP ax ay cx cy
  rotate_left
  · go_wp2
    go_ret
    exact ⟨ret_bool (by simp [betw, e2]), (then_ (then_ (then_ ((((Below.refl _ _).alloc (Nat.le_refl _) _).alloc (by simp) _).alloc (by simp; omega) _) hb1 (by simp; omega)) hb2 (by omega)) hb3 (by omega))⟩
  go_wp2_with fail
  refine (l02Turn_any _ _ _ _ _ _ H.out _).mono ?_
  rintro e w4 ⟨rfl, hb4⟩
  obtain ⟨hc4, hf4⟩ := bcell hb4
  obtain ⟨z4a, z4b, z4c⟩ : w.heap.size < w4.heap.size ∧ w.heap.size + 1 < w4.heap.size ∧ w.heap.size + 1 + 1 < w4.heap.size := by have := hb4.size; omega
  cases e4 : (tn ax ay bx by' cx cy != 0)
  · have e4' : tn ax ay bx by' cx cy = 0 := by simpa using e4
    have E4 := hid e4'
    clear e4'
    have HB := hid (show betw ax ay bx by' cx cy = (inB cx (min ax bx) (max ax bx) && inB cy (min ay by') (max ay by')) by simp [betw, H.out, e1, e2, e3, E4.out])
    rcases Int.lt_trichotomy ax bx with hx | rfl | hx <;> rcases Int.lt_trichotomy ay by' with hy | rfl | hy
    all_goals
      go_wp2_with (go_at_call 34; refine (l01In_any _ _ _ _).mono ?_; rintro e w' ⟨rfl, rfl⟩)
      all_goals go_ret
      all_goals refine ⟨ret_bool ?_, (then_ (then_ (then_ (then_ ((((Below.refl _ _).alloc (Nat.le_refl _) _).alloc (by simp) _).alloc (by simp; omega) _) hb1 (by simp; omega)) hb2 (by omega)) hb3 (by omega)) hb4 (by omega))⟩
      all_goals rw [HB.out]
      all_goals (first | rw [Int.min_eq_left (Int.le_of_lt hx), Int.max_eq_right (Int.le_of_lt hx)] | rw [Int.min_eq_right (Int.le_of_lt hx), Int.max_eq_left (Int.le_of_lt hx)] | rw [Int.min_self, Int.max_self])
      all_goals (first | rw [Int.min_eq_left (Int.le_of_lt hy), Int.max_eq_right (Int.le_of_lt hy)] | rw [Int.min_eq_right (Int.le_of_lt hy), Int.max_eq_left (Int.le_of_lt hy)] | rw [Int.min_self, Int.max_self])
      all_goals (first | (rw [show inB cx ax ax = true by assumption, Bool.true_and]) | (rw [show inB cx ax ax = false from Bool.eq_false_iff.mpr (by assumption), Bool.false_and]) | (rw [show inB cx ax bx = true by assumption, Bool.true_and]) | (rw [show inB cx ax bx = false from Bool.eq_false_iff.mpr (by assumption), Bool.false_and]) | (rw [show inB cx bx ax = true by assumption, Bool.true_and]) | (rw [show inB cx bx ax = false from Bool.eq_false_iff.mpr (by assumption), Bool.false_and]))
  · go_wp2
    go_ret
    exact ⟨ret_bool (by simp [betw]; simp at e4; simp [e4]), (then_ (then_ (then_ (then_ ((((Below.refl _ _).alloc (Nat.le_refl _) _).alloc (by simp) _).alloc (by simp; omega) _) hb1 (by simp; omega)) hb2 (by omega)) hb3 (by omega)) hb4 (by omega))⟩
theorem sBetw_any (ax ay bx by' cx cy : Int) (w : World) : Calls Try.prog 39 #[.agg #[.int .i64 ax, .int .i64 ay], .agg #[.int .i64 bx, .int .i64 by'], .agg #[.int .i64 cx, .int .i64 cy]] w fun e w' => e = .returned (.bool (betw ax ay bx by' cx cy)) ∧ Below w.heap.size w w' := by
  cases h1 : nodeOkB ax ay
  · exact sBetw_no1 _ _ _ _ _ _ _ h1
  cases h2 : nodeOkB bx by'
  · exact sBetw_no2 _ _ _ _ _ _ _ h1 h2
  cases h3 : nodeOkB cx cy
  · exact sBetw_no3 _ _ _ _ _ _ _ h1 h2 h3
  · exact sBetw_yes _ _ _ _ _ _ _ h1 h2 h3
end Go.Proofs.Ytbijbohkpjnjnaa

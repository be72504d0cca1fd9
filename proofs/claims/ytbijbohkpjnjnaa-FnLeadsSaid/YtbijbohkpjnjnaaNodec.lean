/- What TurnOf, IsBetween and IsBeforeAround return, in the program and in the reference, for all arguments. No condition. -/
import Derived.Test.YtbijbohkpjnjnaaNodeb
namespace Go.Proofs.Ytbijbohkpjnjnaa
open Go.ChangeShapes Go.WideShapes Go.ChangeAt Go.RowKit
set_option maxHeartbeats 400000

theorem l02Turn_any (ax ay bx by' cx cy : Int) (h : okAll [(ax, ay), (bx, by'), (cx, cy)] = true) (w : World) : Calls Try.prog 41 #[.agg #[.int .i64 ax, .int .i64 ay], .agg #[.int .i64 bx, .int .i64 by'], .agg #[.int .i64 cx, .int .i64 cy]] w fun e w' => e = .returned (.int .i64 (tn ax ay bx by' cx cy)) ∧ Below w.heap.size w w' := by
  obtain ⟨⟨_, _⟩, ⟨_, _⟩, ⟨_, _⟩, ⟨_, _⟩, ⟨_, _⟩, ⟨_, _⟩⟩ := ok3 h
  have p1 := prod_bd (a := bx - ax) (b := cy - ay) (m := 20) (n := 20) (by omega) (by omega) (by omega)
  have p2 := prod_bd (a := by' - ay) (b := cx - ax) (m := 20) (n := 20) (by omega) (by omega) (by omega)
  clear h
  go_enter Try.func41, Try.ntmps41
  go_wp2
  go_ret
  exact ⟨ret_int rfl, by repeat (first | exact Below.refl _ _ | refine Below.alloc ?_ (by simp; try omega) _)⟩
theorem eql_node (a b c d : Int) (w : World) : (binOp .eql 38 (.agg #[.int .i64 a, .int .i64 b]) (.agg #[.int .i64 c, .int .i64 d])).run Try.prog w = .ok (.bool (eqP a b c d)) w := by
  have hS : Try.prog.underlying 38 = some (.struct (Try.prog.fieldsOf 38)) := by kernel_rfl
  have hp : Try.prog.stoodInHeld 38 = false := by kernel_rfl
  have u3 := Try.underlying3
  rw [run_eql_struct, show (10000 : Nat) = 9999 + 1 from rfl, run_equalIn_agg w 9999 38 _ _ hS hp]
  simp only [Program.fieldsOf, Try.underlying38]
  go_simp
  by_cases h1 : a = c <;> by_cases h2 : b = d <;> simp [h1, h2, eqP]
theorem iBetw_no (ax ay bx by' cx cy : Int) (w : World) (h : okAll [(ax, ay), (bx, by'), (cx, cy)] = false) : Calls Try.prog 16 #[.agg #[.int .i64 ax, .int .i64 ay], .agg #[.int .i64 bx, .int .i64 by'], .agg #[.int .i64 cx, .int .i64 cy]] w fun e w' => e = .returned (.bool (betw ax ay bx by' cx cy)) ∧ Below w.heap.size w w' := by
  go_enter Try.func16, Try.ntmps16
  go_wp2_with fail
  refine (nodesOk_any _ [(ax, ay), (bx, by'), (cx, cy)] _ (pairs_new _ _ _ _ _ _ (by simp) rfl rfl)).mono ?_
  rintro e w1 ⟨rfl, hb1⟩
  rw [h]
  go_wp2
  go_ret
  exact ⟨ret_bool (by simp [betw, h]), then_ (((((Below.refl _ _).alloc (Nat.le_refl _) _).alloc (by simp) _).alloc (by simp; omega) _).alloc (by simp; omega) _) hb1 (by simp; omega)⟩
theorem iBetw_yes (ax ay bx by' cx cy : Int) (w : World) (h : okAll [(ax, ay), (bx, by'), (cx, cy)] = true) : Calls Try.prog 16 #[.agg #[.int .i64 ax, .int .i64 ay], .agg #[.int .i64 bx, .int .i64 by'], .agg #[.int .i64 cx, .int .i64 cy]] w fun e w' => e = .returned (.bool (betw ax ay bx by' cx cy)) ∧ Below w.heap.size w w' := by
  have heq := eql_node
  go_enter Try.func16, Try.ntmps16
  go_wp2_with fail
  refine (nodesOk_any _ [(ax, ay), (bx, by'), (cx, cy)] _ (pairs_new _ _ _ _ _ _ (by simp) rfl rfl)).mono ?_
  rintro e w1 ⟨rfl, hb1⟩
  rw [h]
  obtain ⟨hc1, hf1⟩ := bcell hb1
  obtain ⟨z1a, z1b, z1c⟩ : w.heap.size < w1.heap.size ∧ w.heap.size + 1 < w1.heap.size ∧ w.heap.size + 1 + 1 < w1.heap.size := by have := hb1.size; simp at this; omega
  cases e1 : eqP ax ay bx by'
  rotate_left
  · go_wp2
    go_ret
    exact ⟨ret_bool (by simp [betw, e1]), then_ (((((Below.refl _ _).alloc (Nat.le_refl _) _).alloc (by simp) _).alloc (by simp; omega) _).alloc (by simp; omega) _) hb1 (by simp; omega)⟩
  cases e2 : eqP ax ay cx cy
  rotate_left
  · go_wp2
    go_ret
    exact ⟨ret_bool (by simp [betw, e2]), then_ (((((Below.refl _ _).alloc (Nat.le_refl _) _).alloc (by simp) _).alloc (by simp; omega) _).alloc (by simp; omega) _) hb1 (by simp; omega)⟩
  cases e3 : eqP bx by' cx cy
  rotate_left
  · go_wp2
    go_ret
    exact ⟨ret_bool (by simp [betw, e3]), then_ (((((Below.refl _ _).alloc (Nat.le_refl _) _).alloc (by simp) _).alloc (by simp; omega) _).alloc (by simp; omega) _) hb1 (by simp; omega)⟩
  go_wp2_with fail
  refine (iTurnOf_any _ _ _ _ _ _ _).mono ?_
  rintro e w2 ⟨rfl, hb2⟩
  have ht : turnF ax ay bx by' cx cy = tn ax ay bx by' cx cy := by simp [turnF, h]
  rw [ht]
  clear ht
  obtain ⟨hc2, hf2⟩ := bcell hb2
  obtain ⟨z2a, z2b, z2c⟩ : w.heap.size < w2.heap.size ∧ w.heap.size + 1 < w2.heap.size ∧ w.heap.size + 1 + 1 < w2.heap.size := by have := hb2.size; omega
  cases e4 : (tn ax ay bx by' cx cy != 0)
  · have e4' : tn ax ay bx by' cx cy = 0 := by simpa using e4
    have E4 := hid e4'
    clear e4'
    have HB := hid (show betw ax ay bx by' cx cy = (inB cx (min ax bx) (max ax bx) && inB cy (min ay by') (max ay by')) by simp [betw, h, e1, e2, e3, E4.out])
    rcases Int.lt_trichotomy ax bx with hx | rfl | hx <;> rcases Int.lt_trichotomy ay by' with hy | rfl | hy
    all_goals
      go_wp2_with (go_at_call 30; refine (within_any _ _ _ _).mono ?_; rintro e w' ⟨rfl, rfl⟩)
      all_goals go_ret
      all_goals refine ⟨ret_bool ?_, then_ (then_ (((((Below.refl _ _).alloc (Nat.le_refl _) _).alloc (by simp) _).alloc (by simp; omega) _).alloc (by simp; omega) _) hb1 (by simp; omega)) hb2 (by omega)⟩
      all_goals rw [HB.out]
      all_goals (first | rw [Int.min_eq_left (Int.le_of_lt hx), Int.max_eq_right (Int.le_of_lt hx)] | rw [Int.min_eq_right (Int.le_of_lt hx), Int.max_eq_left (Int.le_of_lt hx)] | rw [Int.min_self, Int.max_self])
      all_goals (first | rw [Int.min_eq_left (Int.le_of_lt hy), Int.max_eq_right (Int.le_of_lt hy)] | rw [Int.min_eq_right (Int.le_of_lt hy), Int.max_eq_left (Int.le_of_lt hy)] | rw [Int.min_self, Int.max_self])
      all_goals (first | (rw [show inB cx ax ax = true by assumption, Bool.true_and]) | (rw [show inB cx ax ax = false from Bool.eq_false_iff.mpr (by assumption), Bool.false_and]) | (rw [show inB cx ax bx = true by assumption, Bool.true_and]) | (rw [show inB cx ax bx = false from Bool.eq_false_iff.mpr (by assumption), Bool.false_and]) | (rw [show inB cx bx ax = true by assumption, Bool.true_and]) | (rw [show inB cx bx ax = false from Bool.eq_false_iff.mpr (by assumption), Bool.false_and]))
  · go_wp2
    go_ret
    exact ⟨ret_bool (by simp [betw]; simp at e4; simp [e4]), then_ (then_ (((((Below.refl _ _).alloc (Nat.le_refl _) _).alloc (by simp) _).alloc (by simp; omega) _).alloc (by simp; omega) _) hb1 (by simp; omega)) hb2 (by omega)⟩
end Go.Proofs.Ytbijbohkpjnjnaa

/- What IsBeforeAround returns, in the program and in the reference, for all arguments. No condition. -/
import Derived.Test.YtdhppajfdcfikaaNoded
namespace Go.Proofs.Ytdhppajfdcfikaa
open Go.ChangeShapes Go.WideShapes Go.ChangeAt Go.RowKit
set_option maxHeartbeats 400000

theorem sBef_no1 (ax ay bx by' cx cy : Int) (w : World) (h1 : nodeOkB ax ay = false) : Calls Try.prog 122 #[.agg #[.int .i64 ax, .int .i64 ay], .agg #[.int .i64 bx, .int .i64 by'], .agg #[.int .i64 cx, .int .i64 cy]] w fun e w' => e = .returned (.bool (bef ax ay bx by' cx cy)) ∧ Below w.heap.size w w' := by
  go_enter Try.func122, Try.ntmps122
  have hA0 : Box2 (((w.alloc (.cells #[.int .i64 ax, .int .i64 ay] 71)).alloc (.cells #[.int .i64 bx, .int .i64 by'] 71)).alloc (.cells #[.int .i64 cx, .int .i64 cy] 71)) w.heap.size ax ay := ((Box2.new _ _ _ _ _ rfl).alloc _).alloc _
  have hB0 : Box2 (((w.alloc (.cells #[.int .i64 ax, .int .i64 ay] 71)).alloc (.cells #[.int .i64 bx, .int .i64 by'] 71)).alloc (.cells #[.int .i64 cx, .int .i64 cy] 71)) (w.heap.size + 1) bx by' := (Box2.new _ _ _ _ _ (by simp)).alloc _
  have hC0 : Box2 (((w.alloc (.cells #[.int .i64 ax, .int .i64 ay] 71)).alloc (.cells #[.int .i64 bx, .int .i64 by'] 71)).alloc (.cells #[.int .i64 cx, .int .i64 cy] 71)) (w.heap.size + 1 + 1) cx cy := Box2.new _ _ _ _ _ (by simp)
  go_wp2_with fail
  refine (sNodeOk_any _ _ _).mono ?_
  rintro e w1 ⟨rfl, hb1⟩
  rw [h1]
  have hA1 := hA0.below hb1
  have hB1 := hB0.below hb1
  have hC1 := hC0.below hb1
  have c1a0 := hA1.c0
  have c1a1 := hA1.c1
  have c1b0 := hB1.c0
  have c1b1 := hB1.c1
  have c1c0 := hC1.c0
  have c1c1 := hC1.c1
  have z1 : w.heap.size ≤ w1.heap.size := by have := hb1.size; simp at this; omega
  go_wp2
  go_ret
  exact ⟨ret_bool (by simp [bef, okAll3, h1]), (then_ ((((Below.refl _ _).alloc (Nat.le_refl _) _).alloc (by simp) _).alloc (by simp; omega) _) hb1 (by simp; omega))⟩
theorem sBef_no2 (ax ay bx by' cx cy : Int) (w : World) (h1 : nodeOkB ax ay = true) (h2 : nodeOkB bx by' = false) : Calls Try.prog 122 #[.agg #[.int .i64 ax, .int .i64 ay], .agg #[.int .i64 bx, .int .i64 by'], .agg #[.int .i64 cx, .int .i64 cy]] w fun e w' => e = .returned (.bool (bef ax ay bx by' cx cy)) ∧ Below w.heap.size w w' := by
  go_enter Try.func122, Try.ntmps122
  have hA0 : Box2 (((w.alloc (.cells #[.int .i64 ax, .int .i64 ay] 71)).alloc (.cells #[.int .i64 bx, .int .i64 by'] 71)).alloc (.cells #[.int .i64 cx, .int .i64 cy] 71)) w.heap.size ax ay := ((Box2.new _ _ _ _ _ rfl).alloc _).alloc _
  have hB0 : Box2 (((w.alloc (.cells #[.int .i64 ax, .int .i64 ay] 71)).alloc (.cells #[.int .i64 bx, .int .i64 by'] 71)).alloc (.cells #[.int .i64 cx, .int .i64 cy] 71)) (w.heap.size + 1) bx by' := (Box2.new _ _ _ _ _ (by simp)).alloc _
  have hC0 : Box2 (((w.alloc (.cells #[.int .i64 ax, .int .i64 ay] 71)).alloc (.cells #[.int .i64 bx, .int .i64 by'] 71)).alloc (.cells #[.int .i64 cx, .int .i64 cy] 71)) (w.heap.size + 1 + 1) cx cy := Box2.new _ _ _ _ _ (by simp)
  go_wp2_with fail
  refine (sNodeOk_any _ _ _).mono ?_
  rintro e w1 ⟨rfl, hb1⟩
  rw [h1]
  have hA1 := hA0.below hb1
  have hB1 := hB0.below hb1
  have hC1 := hC0.below hb1
  have c1a0 := hA1.c0
  have c1a1 := hA1.c1
  have c1b0 := hB1.c0
  have c1b1 := hB1.c1
  have c1c0 := hC1.c0
  have c1c1 := hC1.c1
  have z1 : w.heap.size ≤ w1.heap.size := by have := hb1.size; simp at this; omega
  go_wp2_with fail
  refine (sNodeOk_any _ _ _).mono ?_
  rintro e w2 ⟨rfl, hb2⟩
  rw [h2]
  have hA2 := hA1.below hb2
  have hB2 := hB1.below hb2
  have hC2 := hC1.below hb2
  have c2a0 := hA2.c0
  have c2a1 := hA2.c1
  have c2b0 := hB2.c0
  have c2b1 := hB2.c1
  have c2c0 := hC2.c0
  have c2c1 := hC2.c1
  have z2 : w.heap.size ≤ w2.heap.size := by have := hb2.size; omega
  go_wp2
  go_ret
  exact ⟨ret_bool (by simp [bef, okAll3, h1, h2]), (then_ (then_ ((((Below.refl _ _).alloc (Nat.le_refl _) _).alloc (by simp) _).alloc (by simp; omega) _) hb1 (by simp; omega)) hb2 (by omega))⟩
theorem sBef_no3 (ax ay bx by' cx cy : Int) (w : World) (h1 : nodeOkB ax ay = true) (h2 : nodeOkB bx by' = true) (h3 : nodeOkB cx cy = false) : Calls Try.prog 122 #[.agg #[.int .i64 ax, .int .i64 ay], .agg #[.int .i64 bx, .int .i64 by'], .agg #[.int .i64 cx, .int .i64 cy]] w fun e w' => e = .returned (.bool (bef ax ay bx by' cx cy)) ∧ Below w.heap.size w w' := by
  go_enter Try.func122, Try.ntmps122
  have hA0 : Box2 (((w.alloc (.cells #[.int .i64 ax, .int .i64 ay] 71)).alloc (.cells #[.int .i64 bx, .int .i64 by'] 71)).alloc (.cells #[.int .i64 cx, .int .i64 cy] 71)) w.heap.size ax ay := ((Box2.new _ _ _ _ _ rfl).alloc _).alloc _
  have hB0 : Box2 (((w.alloc (.cells #[.int .i64 ax, .int .i64 ay] 71)).alloc (.cells #[.int .i64 bx, .int .i64 by'] 71)).alloc (.cells #[.int .i64 cx, .int .i64 cy] 71)) (w.heap.size + 1) bx by' := (Box2.new _ _ _ _ _ (by simp)).alloc _
  have hC0 : Box2 (((w.alloc (.cells #[.int .i64 ax, .int .i64 ay] 71)).alloc (.cells #[.int .i64 bx, .int .i64 by'] 71)).alloc (.cells #[.int .i64 cx, .int .i64 cy] 71)) (w.heap.size + 1 + 1) cx cy := Box2.new _ _ _ _ _ (by simp)
  go_wp2_with fail
  refine (sNodeOk_any _ _ _).mono ?_
  rintro e w1 ⟨rfl, hb1⟩
  rw [h1]
  have hA1 := hA0.below hb1
  have hB1 := hB0.below hb1
  have hC1 := hC0.below hb1
  have c1a0 := hA1.c0
  have c1a1 := hA1.c1
  have c1b0 := hB1.c0
  have c1b1 := hB1.c1
  have c1c0 := hC1.c0
  have c1c1 := hC1.c1
  have z1 : w.heap.size ≤ w1.heap.size := by have := hb1.size; simp at this; omega
  go_wp2_with fail
  refine (sNodeOk_any _ _ _).mono ?_
  rintro e w2 ⟨rfl, hb2⟩
  rw [h2]
  have hA2 := hA1.below hb2
  have hB2 := hB1.below hb2
  have hC2 := hC1.below hb2
  have c2a0 := hA2.c0
  have c2a1 := hA2.c1
  have c2b0 := hB2.c0
  have c2b1 := hB2.c1
  have c2c0 := hC2.c0
  have c2c1 := hC2.c1
  have z2 : w.heap.size ≤ w2.heap.size := by have := hb2.size; omega
  go_wp2_with fail
  refine (sNodeOk_any _ _ _).mono ?_
  rintro e w3 ⟨rfl, hb3⟩
  rw [h3]
  have hA3 := hA2.below hb3
  have hB3 := hB2.below hb3
  have hC3 := hC2.below hb3
  have c3a0 := hA3.c0
  have c3a1 := hA3.c1
  have c3b0 := hB3.c0
  have c3b1 := hB3.c1
  have c3c0 := hC3.c0
  have c3c1 := hC3.c1
  have z3 : w.heap.size ≤ w3.heap.size := by have := hb3.size; omega
  go_wp2
  go_ret
  exact ⟨ret_bool (by simp [bef, okAll3, h1, h2, h3]), (then_ (then_ (then_ ((((Below.refl _ _).alloc (Nat.le_refl _) _).alloc (by simp) _).alloc (by simp; omega) _) hb1 (by simp; omega)) hb2 (by omega)) hb3 (by omega))⟩
theorem sBef_yes (ax ay bx by' cx cy : Int) (w : World) (h1 : nodeOkB ax ay = true) (h2 : nodeOkB bx by' = true) (h3 : nodeOkB cx cy = true) : Calls Try.prog 122 #[.agg #[.int .i64 ax, .int .i64 ay], .agg #[.int .i64 bx, .int .i64 by'], .agg #[.int .i64 cx, .int .i64 cy]] w fun e w' => e = .returned (.bool (bef ax ay bx by' cx cy)) ∧ Below w.heap.size w w' := by
  have h : okAll [(ax, ay), (bx, by'), (cx, cy)] = true := by simp [okAll3, h1, h2, h3]
  have H := hid h
  clear h
  go_enter Try.func122, Try.ntmps122
  have hA0 : Box2 (((w.alloc (.cells #[.int .i64 ax, .int .i64 ay] 71)).alloc (.cells #[.int .i64 bx, .int .i64 by'] 71)).alloc (.cells #[.int .i64 cx, .int .i64 cy] 71)) w.heap.size ax ay := ((Box2.new _ _ _ _ _ rfl).alloc _).alloc _
  have hB0 : Box2 (((w.alloc (.cells #[.int .i64 ax, .int .i64 ay] 71)).alloc (.cells #[.int .i64 bx, .int .i64 by'] 71)).alloc (.cells #[.int .i64 cx, .int .i64 cy] 71)) (w.heap.size + 1) bx by' := (Box2.new _ _ _ _ _ (by simp)).alloc _
  have hC0 : Box2 (((w.alloc (.cells #[.int .i64 ax, .int .i64 ay] 71)).alloc (.cells #[.int .i64 bx, .int .i64 by'] 71)).alloc (.cells #[.int .i64 cx, .int .i64 cy] 71)) (w.heap.size + 1 + 1) cx cy := Box2.new _ _ _ _ _ (by simp)
  go_wp2_with fail
  refine (sNodeOk_any _ _ _).mono ?_
  rintro e w1 ⟨rfl, hb1⟩
  rw [h1]
  have hA1 := hA0.below hb1
  have hB1 := hB0.below hb1
  have hC1 := hC0.below hb1
  have c1a0 := hA1.c0
  have c1a1 := hA1.c1
  have c1b0 := hB1.c0
  have c1b1 := hB1.c1
  have c1c0 := hC1.c0
  have c1c1 := hC1.c1
  have z1 : w.heap.size ≤ w1.heap.size := by have := hb1.size; simp at this; omega
  go_wp2_with fail
  refine (sNodeOk_any _ _ _).mono ?_
  rintro e w2 ⟨rfl, hb2⟩
  rw [h2]
  have hA2 := hA1.below hb2
  have hB2 := hB1.below hb2
  have hC2 := hC1.below hb2
  have c2a0 := hA2.c0
  have c2a1 := hA2.c1
  have c2b0 := hB2.c0
  have c2b1 := hB2.c1
  have c2c0 := hC2.c0
  have c2c1 := hC2.c1
  have z2 : w.heap.size ≤ w2.heap.size := by have := hb2.size; omega
  go_wp2_with fail
  refine (sNodeOk_any _ _ _).mono ?_
  rintro e w3 ⟨rfl, hb3⟩
  rw [h3]
  have hA3 := hA2.below hb3
  have hB3 := hB2.below hb3
  have hC3 := hC2.below hb3
  have c3a0 := hA3.c0
  have c3a1 := hA3.c1
  have c3b0 := hB3.c0
  have c3b1 := hB3.c1
  have c3c0 := hC3.c0
  have c3c1 := hC3.c1
  have z3 : w.heap.size ≤ w3.heap.size := by have := hb3.size; omega
  go_wp2_with fail
  have m3a0 := fun p => (hA3.mv p).c0
  have m3a1 := fun p => (hA3.mv p).c1
  have m3b0 := fun p => (hB3.mv p).c0
  have m3b1 := fun p => (hB3.mv p).c1
  have m3c0 := fun p => (hC3.mv p).c0
  have m3c1 := fun p => (hC3.mv p).c1
  refine wp_region_mv (by kernel_rfl) (by kernel_rfl) ?_
  repeat (quiet_step ((go_at_call 133; exact calls_mv (sHalf_any _ _ _ _ _))))
  refine wpQuiet_nil ?_
  intro _ hw'
  obtain ⟨q3, hw''⟩ := hw'
  subst hw''
  cases e1 : (half ax ay bx by' != half ax ay cx cy)
  · go_wp2_with fail
    refine (l02Turn_any _ _ _ _ _ _ H.out _).mono ?_
    rintro e w4 ⟨rfl, hb4⟩
    go_wp2
    all_goals go_ret
    all_goals exact ⟨ret_bool (by simp at e1; simp [bef, H.out, e1]), (then_ (then_ (then_ (then_ (then_ ((((Below.refl _ _).alloc (Nat.le_refl _) _).alloc (by simp) _).alloc (by simp; omega) _) hb1 (by simp; omega)) hb2 (by omega)) hb3 (by omega)) (below_mv _ q3) (by omega)) hb4 (by rw [size_mv]; omega))⟩
  · go_wp2_with fail
    have hA4 := hA3.mv q3
    have hB4 := hB3.mv q3
    have hC4 := hC3.mv q3
    have m4a0 := fun p => (hA4.mv p).c0
    have m4a1 := fun p => (hA4.mv p).c1
    have m4b0 := fun p => (hB4.mv p).c0
    have m4b1 := fun p => (hB4.mv p).c1
    have m4c0 := fun p => (hC4.mv p).c0
    have m4c1 := fun p => (hC4.mv p).c1
    refine wp_region_mv (by kernel_rfl) (by kernel_rfl) ?_
    repeat (quiet_step ((go_at_call 133; exact calls_mv (sHalf_any _ _ _ _ _))))
    refine wpQuiet_nil ?_
    intro _ hw'
    obtain ⟨q4, hw''⟩ := hw'
    subst hw''
    go_wp2
    all_goals go_ret
    all_goals exact ⟨ret_bool (by simp at e1; simp [bef, H.out, e1]), (then_ (then_ (then_ (then_ (then_ ((((Below.refl _ _).alloc (Nat.le_refl _) _).alloc (by simp) _).alloc (by simp; omega) _) hb1 (by simp; omega)) hb2 (by omega)) hb3 (by omega)) (below_mv _ q3) (by omega)) (below_mv _ q4) (by rw [size_mv]; omega))⟩
theorem sBef_any (ax ay bx by' cx cy : Int) (w : World) : Calls Try.prog 122 #[.agg #[.int .i64 ax, .int .i64 ay], .agg #[.int .i64 bx, .int .i64 by'], .agg #[.int .i64 cx, .int .i64 cy]] w fun e w' => e = .returned (.bool (bef ax ay bx by' cx cy)) ∧ Below w.heap.size w w' := by
  cases h1 : nodeOkB ax ay
  · exact sBef_no1 _ _ _ _ _ _ _ h1
  cases h2 : nodeOkB bx by'
  · exact sBef_no2 _ _ _ _ _ _ _ h1 h2
  cases h3 : nodeOkB cx cy
  · exact sBef_no3 _ _ _ _ _ _ _ h1 h2 h3
  · exact sBef_yes _ _ _ _ _ _ _ h1 h2 h3
theorem iBef_any (ax ay bx by' cx cy : Int) (w : World) : Calls Try.prog 110 #[.agg #[.int .i64 ax, .int .i64 ay], .agg #[.int .i64 bx, .int .i64 by'], .agg #[.int .i64 cx, .int .i64 cy]] w fun e w' => e = .returned (.bool (bef ax ay bx by' cx cy)) ∧ Below w.heap.size w w' := by
  cases h : okAll [(ax, ay), (bx, by'), (cx, cy)]
  all_goals
    have H := hid h
    have hA0 : Box2 (((w.alloc (.cells #[.int .i64 ax, .int .i64 ay] 71)).alloc (.cells #[.int .i64 bx, .int .i64 by'] 71)).alloc (.cells #[.int .i64 cx, .int .i64 cy] 71)) w.heap.size ax ay := ((Box2.new _ _ _ _ _ rfl).alloc _).alloc _
    have hB0 : Box2 (((w.alloc (.cells #[.int .i64 ax, .int .i64 ay] 71)).alloc (.cells #[.int .i64 bx, .int .i64 by'] 71)).alloc (.cells #[.int .i64 cx, .int .i64 cy] 71)) (w.heap.size + 1) bx by' := (Box2.new _ _ _ _ _ (by simp)).alloc _
    have hC0 : Box2 (((w.alloc (.cells #[.int .i64 ax, .int .i64 ay] 71)).alloc (.cells #[.int .i64 bx, .int .i64 by'] 71)).alloc (.cells #[.int .i64 cx, .int .i64 cy] 71)) (w.heap.size + 1 + 1) cx cy := Box2.new _ _ _ _ _ (by simp)
    clear h
    go_enter Try.func110, Try.ntmps110
    go_wp2_with fail
    refine (nodesOk_any _ [(ax, ay), (bx, by'), (cx, cy)] _ (pairs_new _ _ _ _ _ _ (by simp) rfl rfl)).mono ?_
    rintro e w1 ⟨rfl, hb1⟩
    rw [H.out]
    have hA1 := (hA0.alloc _).below hb1
    have hB1 := (hB0.alloc _).below hb1
    have hC1 := (hC0.alloc _).below hb1
    have z1 : w.heap.size ≤ w1.heap.size := by have := hb1.size; simp at this; omega
  · go_wp2
    go_ret
    exact ⟨ret_bool (by simp [bef, H.out]), (then_ (((((Below.refl _ _).alloc (Nat.le_refl _) _).alloc (by simp) _).alloc (by simp; omega) _).alloc (by simp; omega) _) hb1 (by simp; omega))⟩
  · go_wp2_with fail
    have m2a0 := fun p => (hA1.mv p).c0
    have m2a1 := fun p => (hA1.mv p).c1
    have m2b0 := fun p => (hB1.mv p).c0
    have m2b1 := fun p => (hB1.mv p).c1
    have m2c0 := fun p => (hC1.mv p).c0
    have m2c1 := fun p => (hC1.mv p).c1
    refine wp_region_mv (by kernel_rfl) (by kernel_rfl) ?_
    repeat (quiet_step ((go_at_call 121; exact calls_mv (iHalf_any _ _ _ _ _))))
    refine wpQuiet_nil ?_
    intro _ hw'
    obtain ⟨q2, hw''⟩ := hw'
    subst hw''
    have hA3 := hA1.mv q2
    have hB3 := hB1.mv q2
    have hC3 := hC1.mv q2
    have c3a0 := hA3.c0
    have c3a1 := hA3.c1
    have c3b0 := hB3.c0
    have c3b1 := hB3.c1
    have c3c0 := hC3.c0
    have c3c1 := hC3.c1
    rcases Int.lt_trichotomy (half ax ay bx by') (half ax ay cx cy) with e1 | e1 | e1
    · go_wp2
      go_ret
      exact ⟨ret_bool (by simp [bef, H.out, e1]), then_ (then_ (((((Below.refl _ _).alloc (Nat.le_refl _) _).alloc (by simp) _).alloc (by simp; omega) _).alloc (by simp; omega) _) hb1 (by simp; omega)) (below_mv _ q2) (by omega)⟩
    · have E1 := hid e1
      have e2 : (half ax ay bx by' == half ax ay cx cy) = true := by simpa using e1
      have e3 : ¬ half ax ay bx by' < half ax ay cx cy := by omega
      clear e1
      go_wp2_with fail
      refine (iTurnOf_any _ _ _ _ _ _ _).mono ?_
      rintro e w4 ⟨rfl, hb4⟩
      go_wp2
      all_goals go_ret
      all_goals exact ⟨ret_bool (by have := E1.out; simp [bef, H.out, this, turnF]), then_ (then_ (then_ (((((Below.refl _ _).alloc (Nat.le_refl _) _).alloc (by simp) _).alloc (by simp; omega) _).alloc (by simp; omega) _) hb1 (by simp; omega)) (below_mv _ q2) (by omega)) hb4 (by rw [size_mv]; omega)⟩
    · have e2 : (half ax ay bx by' == half ax ay cx cy) = false := by simp; omega
      have e3 : ¬ half ax ay bx by' < half ax ay cx cy := by omega
      go_wp2
      go_ret
      exact ⟨ret_bool (by have : ¬ half ax ay bx by' = half ax ay cx cy := by omega
                          simp [bef, H.out, this]; omega), then_ (then_ (((((Below.refl _ _).alloc (Nat.le_refl _) _).alloc (by simp) _).alloc (by simp; omega) _).alloc (by simp; omega) _) hb1 (by simp; omega)) (below_mv _ q2) (by omega)⟩
theorem iBetw_any (ax ay bx by' cx cy : Int) (w : World) : Calls Try.prog 113 #[.agg #[.int .i64 ax, .int .i64 ay], .agg #[.int .i64 bx, .int .i64 by'], .agg #[.int .i64 cx, .int .i64 cy]] w fun e w' => e = .returned (.bool (betw ax ay bx by' cx cy)) ∧ Below w.heap.size w w' := by
  cases h : okAll [(ax, ay), (bx, by'), (cx, cy)]
  · exact iBetw_no _ _ _ _ _ _ _ h
  · exact iBetw_yes _ _ _ _ _ _ _ h
end Go.Proofs.Ytdhppajfdcfikaa

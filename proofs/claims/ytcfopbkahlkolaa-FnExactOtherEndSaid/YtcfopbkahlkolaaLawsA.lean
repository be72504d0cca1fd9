/- The walks of the laws on nodes and leads by value: each returns true. No condition. -/
import Derived.Test.YtcfopbkahlkolaaNodee
namespace Go.Proofs.Ytcfopbkahlkolaa
open Go.ChangeShapes Go.WideShapes Go.ChangeAt Go.RowKit
set_option maxHeartbeats 400000

theorem FnExactNodeOk_walk (x0 y0 : Int) (w : World) : Calls Try.prog 4 #[.agg #[.int .i64 x0, .int .i64 y0]] w fun e w' => e = .returned (.bool true) ∧ Below w.heap.size w w' := by
  have b00 : Box2 (w.alloc (.cells #[.int .i64 x0, .int .i64 y0] 24)) ((w.heap.size)) x0 y0 := (Box2.new _ _ _ _ _ rfl)
  have s0 : Below w.heap.size w (w.alloc (.cells #[.int .i64 x0, .int .i64 y0] 24)) := ((Below.refl w.heap.size w).alloc (Nat.le_refl _) _)
  have z0 : w.heap.size ≤ (w.alloc (.cells #[.int .i64 x0, .int .i64 y0] 24)).heap.size := s0.size
  go_enter Try.func4, Try.ntmps4
  go_wp2_with fail
  refine (toNode_any _ _ _).mono ?_
  rintro e w1 ⟨rfl, hb1⟩
  have b01 := b00.below hb1
  have c1_00 := b01.c0
  have c1_01 := b01.c1
  have s1 := s0.trans (hb1.mono z0)
  have z1 := s1.size
  go_wp2_with fail
  refine (sNodeOk_any _ _ _).mono ?_
  rintro e w2 ⟨rfl, hb2⟩
  have b02 := b01.below hb2
  have c2_00 := b02.c0
  have c2_01 := b02.c1
  have s2 := s1.trans (hb2.mono z1)
  have z2 := s2.size
  go_wp2_with fail
  refine (toNode_any _ _ _).mono ?_
  rintro e w3 ⟨rfl, hb3⟩
  have b03 := b02.below hb3
  have c3_00 := b03.c0
  have c3_01 := b03.c1
  have s3 := s2.trans (hb3.mono z2)
  have z3 := s3.size
  go_wp2_with fail
  refine (iNodeOk_any _ _ _).mono ?_
  rintro e w4 ⟨rfl, hb4⟩
  have b04 := b03.below hb4
  have c4_00 := b04.c0
  have c4_01 := b04.c1
  have s4 := s3.trans (hb4.mono z3)
  have z4 := s4.size
  go_wp2
  go_ret
  exact ⟨rfl, s4⟩

theorem FnExactShareNode_walk (x0 y0 : Int) (x1 y1 : Int) (w : World) : Calls Try.prog 5 #[.agg #[.int .i64 x0, .int .i64 y0], .agg #[.int .i64 x1, .int .i64 y1]] w fun e w' => e = .returned (.bool true) ∧ Below w.heap.size w w' := by
  have b00 : Box2 ((w.alloc (.cells #[.int .i64 x0, .int .i64 y0] 30)).alloc (.cells #[.int .i64 x1, .int .i64 y1] 30)) (w.heap.size) x0 y0 := ((Box2.new _ _ _ _ _ rfl).alloc _)
  have b10 : Box2 ((w.alloc (.cells #[.int .i64 x0, .int .i64 y0] 30)).alloc (.cells #[.int .i64 x1, .int .i64 y1] 30)) (w.heap.size + 1) x1 y1 := (Box2.new _ _ _ _ _ (by simp))
  have s0 : Below w.heap.size w ((w.alloc (.cells #[.int .i64 x0, .int .i64 y0] 30)).alloc (.cells #[.int .i64 x1, .int .i64 y1] 30)) := (((Below.refl w.heap.size w).alloc (Nat.le_refl _) _).alloc (by simp) _)
  have z0 : w.heap.size ≤ ((w.alloc (.cells #[.int .i64 x0, .int .i64 y0] 30)).alloc (.cells #[.int .i64 x1, .int .i64 y1] 30)).heap.size := s0.size
  go_enter Try.func5, Try.ntmps5
  go_wp2_with fail
  have m00 := fun p => (b00.mv p).c0
  have m01 := fun p => (b00.mv p).c1
  have m10 := fun p => (b10.mv p).c0
  have m11 := fun p => (b10.mv p).c1
  refine wp_region_mv (by kernel_rfl) (by kernel_rfl) ?_
  repeat (quiet_step ((first | (go_at_call 19; exact calls_mv (toLead_any _ _ _)) | (go_at_call 18; exact calls_mv (sShare_any _ _ _ _ _)))))
  refine wpQuiet_nil ?_
  intro _ hw'
  obtain ⟨q1, hw''⟩ := hw'
  subst hw''
  have b01 := b00.mv q1
  have b11 := b10.mv q1
  have s1 := s0.trans ((below_mv _ q1).mono z0)
  have z1 := s1.size
  clear m00 m01 m10 m11
  go_wp2_with fail
  have m00 := fun p => (b01.mv p).c0
  have m01 := fun p => (b01.mv p).c1
  have m10 := fun p => (b11.mv p).c0
  have m11 := fun p => (b11.mv p).c1
  refine wp_region_mv (by kernel_rfl) (by kernel_rfl) ?_
  repeat (quiet_step ((first | (go_at_call 19; exact calls_mv (toLead_any _ _ _)) | (go_at_call 20; exact calls_mv (iShare_any _ _ _ _ _)))))
  refine wpQuiet_nil ?_
  intro _ hw'
  obtain ⟨q2, hw''⟩ := hw'
  subst hw''
  have b02 := b01.mv q2
  have b12 := b11.mv q2
  have s2 := s1.trans ((below_mv _ q2).mono z1)
  have z2 := s2.size
  clear m00 m01 m10 m11
  go_wp2
  go_ret
  exact ⟨rfl, s2⟩

theorem FnExactHalfPlane_walk (x0 y0 : Int) (x1 y1 : Int) (w : World) : Calls Try.prog 8 #[.agg #[.int .i64 x0, .int .i64 y0], .agg #[.int .i64 x1, .int .i64 y1]] w fun e w' => e = .returned (.bool true) ∧ Below w.heap.size w w' := by
  have b00 : Box2 ((w.alloc (.cells #[.int .i64 x0, .int .i64 y0] 24)).alloc (.cells #[.int .i64 x1, .int .i64 y1] 24)) (w.heap.size) x0 y0 := ((Box2.new _ _ _ _ _ rfl).alloc _)
  have b10 : Box2 ((w.alloc (.cells #[.int .i64 x0, .int .i64 y0] 24)).alloc (.cells #[.int .i64 x1, .int .i64 y1] 24)) (w.heap.size + 1) x1 y1 := (Box2.new _ _ _ _ _ (by simp))
  have s0 : Below w.heap.size w ((w.alloc (.cells #[.int .i64 x0, .int .i64 y0] 24)).alloc (.cells #[.int .i64 x1, .int .i64 y1] 24)) := (((Below.refl w.heap.size w).alloc (Nat.le_refl _) _).alloc (by simp) _)
  have z0 : w.heap.size ≤ ((w.alloc (.cells #[.int .i64 x0, .int .i64 y0] 24)).alloc (.cells #[.int .i64 x1, .int .i64 y1] 24)).heap.size := s0.size
  go_enter Try.func8, Try.ntmps8
  go_wp2_with fail
  have m00 := fun p => (b00.mv p).c0
  have m01 := fun p => (b00.mv p).c1
  have m10 := fun p => (b10.mv p).c0
  have m11 := fun p => (b10.mv p).c1
  refine wp_region_mv (by kernel_rfl) (by kernel_rfl) ?_
  repeat (quiet_step ((first | (go_at_call 16; exact calls_mv (toNode_any _ _ _)) | (go_at_call 25; exact calls_mv (sHalf_any _ _ _ _ _)))))
  refine wpQuiet_nil ?_
  intro _ hw'
  obtain ⟨q1, hw''⟩ := hw'
  subst hw''
  have b01 := b00.mv q1
  have b11 := b10.mv q1
  have s1 := s0.trans ((below_mv _ q1).mono z0)
  have z1 := s1.size
  clear m00 m01 m10 m11
  go_wp2_with fail
  have m00 := fun p => (b01.mv p).c0
  have m01 := fun p => (b01.mv p).c1
  have m10 := fun p => (b11.mv p).c0
  have m11 := fun p => (b11.mv p).c1
  refine wp_region_mv (by kernel_rfl) (by kernel_rfl) ?_
  repeat (quiet_step ((first | (go_at_call 16; exact calls_mv (toNode_any _ _ _)) | (go_at_call 26; exact calls_mv (iHalf_any _ _ _ _ _)))))
  refine wpQuiet_nil ?_
  intro _ hw'
  obtain ⟨q2, hw''⟩ := hw'
  subst hw''
  have b02 := b01.mv q2
  have b12 := b11.mv q2
  have s2 := s1.trans ((below_mv _ q2).mono z1)
  have z2 := s2.size
  clear m00 m01 m10 m11
  go_wp2
  go_ret
  exact ⟨rfl, s2⟩

theorem FnExactOtherEnd_walk (x0 y0 : Int) (x1 : Int) (_ : (Lit.int .i64 x1).wf = true) (w : World) : Calls Try.prog 9 #[.agg #[.int .i64 x0, .int .i64 y0], .int .i64 x1] w fun e w' => e = .returned (.bool true) ∧ Below w.heap.size w w' := by
  have b00 : Box2 (w.alloc (.cells #[.int .i64 x0, .int .i64 y0] 30)) ((w.heap.size)) x0 y0 := (Box2.new _ _ _ _ _ rfl)
  have s0 : Below w.heap.size w (w.alloc (.cells #[.int .i64 x0, .int .i64 y0] 30)) := ((Below.refl w.heap.size w).alloc (Nat.le_refl _) _)
  have z0 : w.heap.size ≤ (w.alloc (.cells #[.int .i64 x0, .int .i64 y0] 30)).heap.size := s0.size
  go_enter Try.func9, Try.ntmps9
  go_wp2_with fail
  refine (toLead_any _ _ _).mono ?_
  rintro e w1 ⟨rfl, hb1⟩
  have b01 := b00.below hb1
  have c1_00 := b01.c0
  have c1_01 := b01.c1
  have s1 := s0.trans (hb1.mono z0)
  have z1 := s1.size
  go_wp2_with fail
  refine (sOther_any _ _ _ _).mono ?_
  rintro e w2 ⟨rfl, hb2⟩
  have b02 := b01.below hb2
  have c2_00 := b02.c0
  have c2_01 := b02.c1
  have s2 := s1.trans (hb2.mono z1)
  have z2 := s2.size
  go_wp2_with fail
  refine (toLead_any _ _ _).mono ?_
  rintro e w3 ⟨rfl, hb3⟩
  have b03 := b02.below hb3
  have c3_00 := b03.c0
  have c3_01 := b03.c1
  have s3 := s2.trans (hb3.mono z2)
  have z3 := s3.size
  go_wp2_with fail
  refine (iOther_any _ _ _ _).mono ?_
  rintro e w4 ⟨rfl, hb4⟩
  have b04 := b03.below hb4
  have c4_00 := b04.c0
  have c4_01 := b04.c1
  have s4 := s3.trans (hb4.mono z3)
  have z4 := s4.size
  go_wp2
  go_ret
  exact ⟨rfl, s4⟩

theorem FnExactLengthSquare_walk (x0 y0 : Int) (x1 y1 : Int) (w : World) : Calls Try.prog 10 #[.agg #[.int .i64 x0, .int .i64 y0], .agg #[.int .i64 x1, .int .i64 y1]] w fun e w' => e = .returned (.bool true) ∧ Below w.heap.size w w' := by
  have b00 : Box2 ((w.alloc (.cells #[.int .i64 x0, .int .i64 y0] 24)).alloc (.cells #[.int .i64 x1, .int .i64 y1] 24)) (w.heap.size) x0 y0 := ((Box2.new _ _ _ _ _ rfl).alloc _)
  have b10 : Box2 ((w.alloc (.cells #[.int .i64 x0, .int .i64 y0] 24)).alloc (.cells #[.int .i64 x1, .int .i64 y1] 24)) (w.heap.size + 1) x1 y1 := (Box2.new _ _ _ _ _ (by simp))
  have s0 : Below w.heap.size w ((w.alloc (.cells #[.int .i64 x0, .int .i64 y0] 24)).alloc (.cells #[.int .i64 x1, .int .i64 y1] 24)) := (((Below.refl w.heap.size w).alloc (Nat.le_refl _) _).alloc (by simp) _)
  have z0 : w.heap.size ≤ ((w.alloc (.cells #[.int .i64 x0, .int .i64 y0] 24)).alloc (.cells #[.int .i64 x1, .int .i64 y1] 24)).heap.size := s0.size
  go_enter Try.func10, Try.ntmps10
  go_wp2_with fail
  have m00 := fun p => (b00.mv p).c0
  have m01 := fun p => (b00.mv p).c1
  have m10 := fun p => (b10.mv p).c0
  have m11 := fun p => (b10.mv p).c1
  refine wp_region_mv (by kernel_rfl) (by kernel_rfl) ?_
  repeat (quiet_step ((first | (go_at_call 16; exact calls_mv (toNode_any _ _ _)) | (go_at_call 29; exact calls_mv (sLen_any _ _ _ _ _)))))
  refine wpQuiet_nil ?_
  intro _ hw'
  obtain ⟨q1, hw''⟩ := hw'
  subst hw''
  have b01 := b00.mv q1
  have b11 := b10.mv q1
  have s1 := s0.trans ((below_mv _ q1).mono z0)
  have z1 := s1.size
  clear m00 m01 m10 m11
  go_wp2_with fail
  have m00 := fun p => (b01.mv p).c0
  have m01 := fun p => (b01.mv p).c1
  have m10 := fun p => (b11.mv p).c0
  have m11 := fun p => (b11.mv p).c1
  refine wp_region_mv (by kernel_rfl) (by kernel_rfl) ?_
  repeat (quiet_step ((first | (go_at_call 16; exact calls_mv (toNode_any _ _ _)) | (go_at_call 30; exact calls_mv (iLen_any _ _ _ _ _)))))
  refine wpQuiet_nil ?_
  intro _ hw'
  obtain ⟨q2, hw''⟩ := hw'
  subst hw''
  have b02 := b01.mv q2
  have b12 := b11.mv q2
  have s2 := s1.trans ((below_mv _ q2).mono z1)
  have z2 := s2.size
  clear m00 m01 m10 m11
  go_wp2
  go_ret
  exact ⟨rfl, s2⟩

theorem FnExactTurnOf_walk (x0 y0 : Int) (x1 y1 : Int) (x2 y2 : Int) (w : World) : Calls Try.prog 11 #[.agg #[.int .i64 x0, .int .i64 y0], .agg #[.int .i64 x1, .int .i64 y1], .agg #[.int .i64 x2, .int .i64 y2]] w fun e w' => e = .returned (.bool true) ∧ Below w.heap.size w w' := by
  have b00 : Box2 (((w.alloc (.cells #[.int .i64 x0, .int .i64 y0] 24)).alloc (.cells #[.int .i64 x1, .int .i64 y1] 24)).alloc (.cells #[.int .i64 x2, .int .i64 y2] 24)) (w.heap.size) x0 y0 := (((Box2.new _ _ _ _ _ rfl).alloc _).alloc _)
  have b10 : Box2 (((w.alloc (.cells #[.int .i64 x0, .int .i64 y0] 24)).alloc (.cells #[.int .i64 x1, .int .i64 y1] 24)).alloc (.cells #[.int .i64 x2, .int .i64 y2] 24)) (w.heap.size + 1) x1 y1 := ((Box2.new _ _ _ _ _ (by simp)).alloc _)
  have b20 : Box2 (((w.alloc (.cells #[.int .i64 x0, .int .i64 y0] 24)).alloc (.cells #[.int .i64 x1, .int .i64 y1] 24)).alloc (.cells #[.int .i64 x2, .int .i64 y2] 24)) (w.heap.size + 1 + 1) x2 y2 := (Box2.new _ _ _ _ _ (by simp))
  have s0 : Below w.heap.size w (((w.alloc (.cells #[.int .i64 x0, .int .i64 y0] 24)).alloc (.cells #[.int .i64 x1, .int .i64 y1] 24)).alloc (.cells #[.int .i64 x2, .int .i64 y2] 24)) := ((((Below.refl w.heap.size w).alloc (Nat.le_refl _) _).alloc (by simp) _).alloc (by simp; omega) _)
  have z0 : w.heap.size ≤ (((w.alloc (.cells #[.int .i64 x0, .int .i64 y0] 24)).alloc (.cells #[.int .i64 x1, .int .i64 y1] 24)).alloc (.cells #[.int .i64 x2, .int .i64 y2] 24)).heap.size := s0.size
  go_enter Try.func11, Try.ntmps11
  go_wp2_with fail
  have m00 := fun p => (b00.mv p).c0
  have m01 := fun p => (b00.mv p).c1
  have m10 := fun p => (b10.mv p).c0
  have m11 := fun p => (b10.mv p).c1
  have m20 := fun p => (b20.mv p).c0
  have m21 := fun p => (b20.mv p).c1
  refine wp_region_mv (by kernel_rfl) (by kernel_rfl) ?_
  repeat (quiet_step ((first | (go_at_call 16; exact calls_mv (toNode_any _ _ _)) | (go_at_call 31; exact calls_mv (sTurnOf_any _ _ _ _ _ _ _)))))
  refine wpQuiet_nil ?_
  intro _ hw'
  obtain ⟨q1, hw''⟩ := hw'
  subst hw''
  have b01 := b00.mv q1
  have b11 := b10.mv q1
  have b21 := b20.mv q1
  have s1 := s0.trans ((below_mv _ q1).mono z0)
  have z1 := s1.size
  clear m00 m01 m10 m11 m20 m21
  go_wp2_with fail
  have m00 := fun p => (b01.mv p).c0
  have m01 := fun p => (b01.mv p).c1
  have m10 := fun p => (b11.mv p).c0
  have m11 := fun p => (b11.mv p).c1
  have m20 := fun p => (b21.mv p).c0
  have m21 := fun p => (b21.mv p).c1
  refine wp_region_mv (by kernel_rfl) (by kernel_rfl) ?_
  repeat (quiet_step ((first | (go_at_call 16; exact calls_mv (toNode_any _ _ _)) | (go_at_call 32; exact calls_mv (iTurnOf_any _ _ _ _ _ _ _)))))
  refine wpQuiet_nil ?_
  intro _ hw'
  obtain ⟨q2, hw''⟩ := hw'
  subst hw''
  have b02 := b01.mv q2
  have b12 := b11.mv q2
  have b22 := b21.mv q2
  have s2 := s1.trans ((below_mv _ q2).mono z1)
  have z2 := s2.size
  clear m00 m01 m10 m11 m20 m21
  go_wp2
  go_ret
  exact ⟨rfl, s2⟩

theorem FnExactIsBetween_walk (x0 y0 : Int) (x1 y1 : Int) (x2 y2 : Int) (w : World) : Calls Try.prog 12 #[.agg #[.int .i64 x0, .int .i64 y0], .agg #[.int .i64 x1, .int .i64 y1], .agg #[.int .i64 x2, .int .i64 y2]] w fun e w' => e = .returned (.bool true) ∧ Below w.heap.size w w' := by
  have b00 : Box2 (((w.alloc (.cells #[.int .i64 x0, .int .i64 y0] 24)).alloc (.cells #[.int .i64 x1, .int .i64 y1] 24)).alloc (.cells #[.int .i64 x2, .int .i64 y2] 24)) (w.heap.size) x0 y0 := (((Box2.new _ _ _ _ _ rfl).alloc _).alloc _)
  have b10 : Box2 (((w.alloc (.cells #[.int .i64 x0, .int .i64 y0] 24)).alloc (.cells #[.int .i64 x1, .int .i64 y1] 24)).alloc (.cells #[.int .i64 x2, .int .i64 y2] 24)) (w.heap.size + 1) x1 y1 := ((Box2.new _ _ _ _ _ (by simp)).alloc _)
  have b20 : Box2 (((w.alloc (.cells #[.int .i64 x0, .int .i64 y0] 24)).alloc (.cells #[.int .i64 x1, .int .i64 y1] 24)).alloc (.cells #[.int .i64 x2, .int .i64 y2] 24)) (w.heap.size + 1 + 1) x2 y2 := (Box2.new _ _ _ _ _ (by simp))
  have s0 : Below w.heap.size w (((w.alloc (.cells #[.int .i64 x0, .int .i64 y0] 24)).alloc (.cells #[.int .i64 x1, .int .i64 y1] 24)).alloc (.cells #[.int .i64 x2, .int .i64 y2] 24)) := ((((Below.refl w.heap.size w).alloc (Nat.le_refl _) _).alloc (by simp) _).alloc (by simp; omega) _)
  have z0 : w.heap.size ≤ (((w.alloc (.cells #[.int .i64 x0, .int .i64 y0] 24)).alloc (.cells #[.int .i64 x1, .int .i64 y1] 24)).alloc (.cells #[.int .i64 x2, .int .i64 y2] 24)).heap.size := s0.size
  go_enter Try.func12, Try.ntmps12
  go_wp2_with fail
  have m00 := fun p => (b00.mv p).c0
  have m01 := fun p => (b00.mv p).c1
  have m10 := fun p => (b10.mv p).c0
  have m11 := fun p => (b10.mv p).c1
  have m20 := fun p => (b20.mv p).c0
  have m21 := fun p => (b20.mv p).c1
  refine wp_region_mv (by kernel_rfl) (by kernel_rfl) ?_
  repeat (quiet_step ((first | (go_at_call 16; exact calls_mv (toNode_any _ _ _)) | (go_at_call 33; exact calls_mv (sBetw_any _ _ _ _ _ _ _)))))
  refine wpQuiet_nil ?_
  intro _ hw'
  obtain ⟨q1, hw''⟩ := hw'
  subst hw''
  have b01 := b00.mv q1
  have b11 := b10.mv q1
  have b21 := b20.mv q1
  have s1 := s0.trans ((below_mv _ q1).mono z0)
  have z1 := s1.size
  clear m00 m01 m10 m11 m20 m21
  go_wp2_with fail
  have m00 := fun p => (b01.mv p).c0
  have m01 := fun p => (b01.mv p).c1
  have m10 := fun p => (b11.mv p).c0
  have m11 := fun p => (b11.mv p).c1
  have m20 := fun p => (b21.mv p).c0
  have m21 := fun p => (b21.mv p).c1
  refine wp_region_mv (by kernel_rfl) (by kernel_rfl) ?_
  repeat (quiet_step ((first | (go_at_call 16; exact calls_mv (toNode_any _ _ _)) | (go_at_call 34; exact calls_mv (iBetw_any _ _ _ _ _ _ _)))))
  refine wpQuiet_nil ?_
  intro _ hw'
  obtain ⟨q2, hw''⟩ := hw'
  subst hw''
  have b02 := b01.mv q2
  have b12 := b11.mv q2
  have b22 := b21.mv q2
  have s2 := s1.trans ((below_mv _ q2).mono z1)
  have z2 := s2.size
  clear m00 m01 m10 m11 m20 m21
  go_wp2
  go_ret
  exact ⟨rfl, s2⟩

theorem FnExactIsBeforeAround_walk (x0 y0 : Int) (x1 y1 : Int) (x2 y2 : Int) (w : World) : Calls Try.prog 13 #[.agg #[.int .i64 x0, .int .i64 y0], .agg #[.int .i64 x1, .int .i64 y1], .agg #[.int .i64 x2, .int .i64 y2]] w fun e w' => e = .returned (.bool true) ∧ Below w.heap.size w w' := by
  have b00 : Box2 (((w.alloc (.cells #[.int .i64 x0, .int .i64 y0] 24)).alloc (.cells #[.int .i64 x1, .int .i64 y1] 24)).alloc (.cells #[.int .i64 x2, .int .i64 y2] 24)) (w.heap.size) x0 y0 := (((Box2.new _ _ _ _ _ rfl).alloc _).alloc _)
  have b10 : Box2 (((w.alloc (.cells #[.int .i64 x0, .int .i64 y0] 24)).alloc (.cells #[.int .i64 x1, .int .i64 y1] 24)).alloc (.cells #[.int .i64 x2, .int .i64 y2] 24)) (w.heap.size + 1) x1 y1 := ((Box2.new _ _ _ _ _ (by simp)).alloc _)
  have b20 : Box2 (((w.alloc (.cells #[.int .i64 x0, .int .i64 y0] 24)).alloc (.cells #[.int .i64 x1, .int .i64 y1] 24)).alloc (.cells #[.int .i64 x2, .int .i64 y2] 24)) (w.heap.size + 1 + 1) x2 y2 := (Box2.new _ _ _ _ _ (by simp))
  have s0 : Below w.heap.size w (((w.alloc (.cells #[.int .i64 x0, .int .i64 y0] 24)).alloc (.cells #[.int .i64 x1, .int .i64 y1] 24)).alloc (.cells #[.int .i64 x2, .int .i64 y2] 24)) := ((((Below.refl w.heap.size w).alloc (Nat.le_refl _) _).alloc (by simp) _).alloc (by simp; omega) _)
  have z0 : w.heap.size ≤ (((w.alloc (.cells #[.int .i64 x0, .int .i64 y0] 24)).alloc (.cells #[.int .i64 x1, .int .i64 y1] 24)).alloc (.cells #[.int .i64 x2, .int .i64 y2] 24)).heap.size := s0.size
  go_enter Try.func13, Try.ntmps13
  go_wp2_with fail
  have m00 := fun p => (b00.mv p).c0
  have m01 := fun p => (b00.mv p).c1
  have m10 := fun p => (b10.mv p).c0
  have m11 := fun p => (b10.mv p).c1
  have m20 := fun p => (b20.mv p).c0
  have m21 := fun p => (b20.mv p).c1
  refine wp_region_mv (by kernel_rfl) (by kernel_rfl) ?_
  repeat (quiet_step ((first | (go_at_call 16; exact calls_mv (toNode_any _ _ _)) | (go_at_call 35; exact calls_mv (sBef_any _ _ _ _ _ _ _)))))
  refine wpQuiet_nil ?_
  intro _ hw'
  obtain ⟨q1, hw''⟩ := hw'
  subst hw''
  have b01 := b00.mv q1
  have b11 := b10.mv q1
  have b21 := b20.mv q1
  have s1 := s0.trans ((below_mv _ q1).mono z0)
  have z1 := s1.size
  clear m00 m01 m10 m11 m20 m21
  go_wp2_with fail
  have m00 := fun p => (b01.mv p).c0
  have m01 := fun p => (b01.mv p).c1
  have m10 := fun p => (b11.mv p).c0
  have m11 := fun p => (b11.mv p).c1
  have m20 := fun p => (b21.mv p).c0
  have m21 := fun p => (b21.mv p).c1
  refine wp_region_mv (by kernel_rfl) (by kernel_rfl) ?_
  repeat (quiet_step ((first | (go_at_call 16; exact calls_mv (toNode_any _ _ _)) | (go_at_call 36; exact calls_mv (iBef_any _ _ _ _ _ _ _)))))
  refine wpQuiet_nil ?_
  intro _ hw'
  obtain ⟨q2, hw''⟩ := hw'
  subst hw''
  have b02 := b01.mv q2
  have b12 := b11.mv q2
  have b22 := b21.mv q2
  have s2 := s1.trans ((below_mv _ q2).mono z1)
  have z2 := s2.size
  clear m00 m01 m10 m11 m20 m21
  go_wp2
  go_ret
  exact ⟨rfl, s2⟩

theorem FnExactTwinOf_walk (x0 : Int) (_ : (Lit.int .i64 x0).wf = true) (w : World) : Calls Try.prog 6 #[.int .i64 x0] w fun e w' => e = .returned (.bool true) ∧ Below w.heap.size w w' := by
  go_enter Try.func6, Try.ntmps6
  go_wp2_with (first | (go_at_call 21; refine (sTwin_any _ _).mono ?_; rintro e w' ⟨rfl, rfl⟩) | (go_at_call 22; refine (iTwin_any _ _).mono ?_; rintro e w' ⟨rfl, rfl⟩))
  go_ret
  exact ⟨rfl, Below.refl _ _⟩

theorem FnExactClamp_walk (x0 : Int) (_ : (Lit.int .i64 x0).wf = true) (x1 : Int) (_ : (Lit.int .i64 x1).wf = true) (x2 : Int) (_ : (Lit.int .i64 x2).wf = true) (w : World) : Calls Try.prog 7 #[.int .i64 x0, .int .i64 x1, .int .i64 x2] w fun e w' => e = .returned (.bool true) ∧ Below w.heap.size w w' := by
  go_enter Try.func7, Try.ntmps7
  go_wp2_with (first | (go_at_call 23; refine (sClamp_any _ _ _ _).mono ?_; rintro e w' ⟨rfl, rfl⟩) | (go_at_call 24; refine (iClamp_any _ _ _ _).mono ?_; rintro e w' ⟨rfl, rfl⟩))
  go_ret
  exact ⟨rfl, Below.refl _ _⟩

theorem FnExactConstants_walk (w : World) : Calls Try.prog 3 #[] w fun e w' => e = .returned (.bool true) ∧ Below w.heap.size w w' := by
  go_enter Try.func3, Try.ntmps3
  go_wp2
  go_ret
  exact ⟨rfl, Below.refl _ _⟩

end Go.Proofs.Ytcfopbkahlkolaa

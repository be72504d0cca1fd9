/- What DoCross of the reference returns, for all arguments. No condition. -/
import Derived.Test.YtbijbohkpjnjnaaCross
namespace Go.Proofs.Ytbijbohkpjnjnaa
open Go.ChangeShapes Go.WideShapes Go.ChangeAt Go.RowKit
set_option maxHeartbeats 2000000
set_option maxRecDepth 100000
set_option linter.unusedSimpArgs false
set_option linter.unusedVariables false

theorem l03Sign_any (n : Int) (w : World) : Calls Try.prog 40 #[.int .i64 n] w fun e w' => e = .returned (.int .i64 (sgn n)) ∧ w = w' := by
  go_enter Try.func40, Try.ntmps40
  go_wp2
  all_goals go_ret
  all_goals exact ⟨ret_int (by unfold sgn; repeat' split <;> omega), rfl⟩
theorem sgn_bd (n : Int) : -1 ≤ sgn n ∧ sgn n ≤ 1 := by unfold sgn; split <;> (try split) <;> omega
theorem sCross_n1 (v : Value) (ns : List (Int × Int)) (f t g u : Int) (w : World) (hv : PairsAt w v ns) (hL : leadOkB ns f t = false) : Calls Try.prog 37 #[v, .agg #[.int .i64 f, .int .i64 t], .agg #[.int .i64 g, .int .i64 u]] w fun e w' => e = .returned (.bool (doCrossB ns f t g u)) ∧ Below w.heap.size w w' := by
  have s0 : Below w.heap.size w ((w.alloc (.cells #[.int .i64 f, .int .i64 t] 30)).alloc (.cells #[.int .i64 g, .int .i64 u] 30)) := ((Below.refl _ _).alloc (Nat.le_refl _) _).alloc (by simp) _
  have b0 : Box2 ((w.alloc (.cells #[.int .i64 f, .int .i64 t] 30)).alloc (.cells #[.int .i64 g, .int .i64 u] 30)) w.heap.size f t := (Box2.new _ _ _ _ _ rfl).alloc _
  have m0 : Box2 ((w.alloc (.cells #[.int .i64 f, .int .i64 t] 30)).alloc (.cells #[.int .i64 g, .int .i64 u] 30)) (w.heap.size + 1) g u := Box2.new _ _ _ _ _ (by simp)
  have hv0 := (hv.below ((Below.refl _ _).alloc (Nat.le_refl _) (.cells #[.int .i64 f, .int .i64 t] 30))).below ((Below.refl _ _).alloc (Nat.le_refl _) (.cells #[.int .i64 g, .int .i64 u] 30))
  have L := hid hL
  go_enter Try.func37, Try.ntmps37
  go_wp2_with fail
  refine (sLeadOk_any _ ns _ _ _ hv0).mono ?_
  rintro e w1 ⟨rfl, hb1⟩
  rw [L.out]
  go_wp2
  go_ret
  exact ⟨ret_bool (by simp [doCrossB, L.out]), then_ s0 hb1 s0.size⟩
theorem sCross_n2 (v : Value) (ns : List (Int × Int)) (f t g u : Int) (w : World) (hv : PairsAt w v ns) (hL : leadOkB ns f t = true) (hM : leadOkB ns g u = false) : Calls Try.prog 37 #[v, .agg #[.int .i64 f, .int .i64 t], .agg #[.int .i64 g, .int .i64 u]] w fun e w' => e = .returned (.bool (doCrossB ns f t g u)) ∧ Below w.heap.size w w' := by
  have s0 : Below w.heap.size w ((w.alloc (.cells #[.int .i64 f, .int .i64 t] 30)).alloc (.cells #[.int .i64 g, .int .i64 u] 30)) := ((Below.refl _ _).alloc (Nat.le_refl _) _).alloc (by simp) _
  have b0 : Box2 ((w.alloc (.cells #[.int .i64 f, .int .i64 t] 30)).alloc (.cells #[.int .i64 g, .int .i64 u] 30)) w.heap.size f t := (Box2.new _ _ _ _ _ rfl).alloc _
  have m0 : Box2 ((w.alloc (.cells #[.int .i64 f, .int .i64 t] 30)).alloc (.cells #[.int .i64 g, .int .i64 u] 30)) (w.heap.size + 1) g u := Box2.new _ _ _ _ _ (by simp)
  have hv0 := (hv.below ((Below.refl _ _).alloc (Nat.le_refl _) (.cells #[.int .i64 f, .int .i64 t] 30))).below ((Below.refl _ _).alloc (Nat.le_refl _) (.cells #[.int .i64 g, .int .i64 u] 30))
  have L := hid hL
  have M := hid hM
  clear hL hM
  have HV := hid hv0
  have S0 := hid s0
  clear hv0 s0 hv
  go_enter Try.func37, Try.ntmps37
  go_wp2_with fail
  refine (sLeadOk_any _ ns _ _ _ HV.out).mono ?_
  rintro e w1 ⟨rfl, hb1⟩
  rw [L.out]
  have S1 := hid (then_ S0.out hb1 S0.out.size)
  have HV1 := hid (HV.out.below hb1)
  have m1 := m0.below hb1
  have g0 := m1.c0
  have g1 := m1.c1
  clear hb1 m0 m1 b0
  go_wp2_with fail
  refine (sLeadOk_any _ ns _ _ _ HV1.out).mono ?_
  rintro e w2 ⟨rfl, hb2⟩
  rw [M.out]
  go_wp2
  go_ret
  exact ⟨ret_bool (by simp [doCrossB, L.out, M.out]), then_ S1.out hb2 S1.out.size⟩
theorem sCross_y (v : Value) (ns : List (Int × Int)) (f t g u : Int) (w : World) (hv : PairsAt w v ns) (hL : leadOkB ns f t = true) (hM : leadOkB ns g u = true) : Calls Try.prog 37 #[v, .agg #[.int .i64 f, .int .i64 t], .agg #[.int .i64 g, .int .i64 u]] w fun e w' => e = .returned (.bool (doCrossB ns f t g u)) ∧ Below w.heap.size w w' := by
  have s0 : Below w.heap.size w ((w.alloc (.cells #[.int .i64 f, .int .i64 t] 30)).alloc (.cells #[.int .i64 g, .int .i64 u] 30)) := ((Below.refl _ _).alloc (Nat.le_refl _) _).alloc (by simp) _
  have b0 : Box2 ((w.alloc (.cells #[.int .i64 f, .int .i64 t] 30)).alloc (.cells #[.int .i64 g, .int .i64 u] 30)) w.heap.size f t := (Box2.new _ _ _ _ _ rfl).alloc _
  have m0 : Box2 ((w.alloc (.cells #[.int .i64 f, .int .i64 t] 30)).alloc (.cells #[.int .i64 g, .int .i64 u] 30)) (w.heap.size + 1) g u := Box2.new _ _ _ _ _ (by simp)
  have hv0 := (hv.below ((Below.refl _ _).alloc (Nat.le_refl _) (.cells #[.int .i64 f, .int .i64 t] 30))).below ((Below.refl _ _).alloc (Nat.le_refl _) (.cells #[.int .i64 g, .int .i64 u] 30))
  obtain ⟨h0, h1, h2, ax, ay, bx, by', ha, hb, hok, hne⟩ := lead_ends hL
  obtain ⟨k0, k1, k2, cx, cy, dx, dy, hc, hd, hok', hne'⟩ := lead_ends hM
  have V := hid (show doCrossB ns f t g u = crossB (ax, ay) (bx, by') (cx, cy) (dx, dy) by simp [doCrossB, hL, hM, atP_of ha, atP_of hb, atP_of hc, atP_of hd])
  have oabc : okAll [(ax, ay), (bx, by'), (cx, cy)] = true := by simp [okAll] at hok hok' ⊢; simp [*]
  have oabd : okAll [(ax, ay), (bx, by'), (dx, dy)] = true := by simp [okAll] at hok hok' ⊢; simp [*]
  have ocda : okAll [(cx, cy), (dx, dy), (ax, ay)] = true := by simp [okAll] at hok hok' ⊢; simp [*]
  have ocdb : okAll [(cx, cy), (dx, dy), (bx, by')] = true := by simp [okAll] at hok hok' ⊢; simp [*]
  have OK := hid (And.intro oabc (And.intro oabd (And.intro ocda ocdb)))
  have hf2 : f < (ns.length : Int) := by omega
  have ht0 : 0 ≤ t := by omega
  have hg2 : g < (ns.length : Int) := by omega
  have hu0 : 0 ≤ u := by omega
  have L := hid hL
  have M := hid hM
  have HV := hid hv0
  have S0 := hid s0
  have HA := hid ha
  have HB := hid hb
  have HC := hid hc
  have HD := hid hd
  clear hL hM hv0 s0 ha hb hc hd hok hok' hne hne' oabc oabd ocda ocdb
  have heq := eql_node
  obtain ⟨A, c, rfl, _, _, _⟩ := id hv
  clear hv
  go_enter Try.func37, Try.ntmps37
  go_wp2_with fail
  refine (sLeadOk_any _ ns _ _ _ HV.out).mono ?_
  rintro e w1 ⟨rfl, hb1⟩
  rw [L.out]
  have S1 := hid (then_ S0.out hb1 S0.out.size)
  have HV1 := hid (HV.out.below hb1)
  have B1 := hid (b0.below hb1)
  have m1 := m0.below hb1
  have M1 := hid m1
  have g0 := m1.c0
  have g1 := m1.c1
  clear hb1 m0 m1 b0
  go_wp2_with fail
  refine (sLeadOk_any _ ns _ _ _ HV1.out).mono ?_
  rintro e w2 ⟨rfl, hb2⟩
  rw [M.out]
  have S2 := hid (then_ S1.out hb2 S1.out.size)
  have zs2 := S2.out.size
  obtain ⟨b, off, c', hsl, hlt, ca0, ca1, cb0, cb1⟩ := pairs_two (HV1.out.below hb2) HA.out HB.out
  injection hsl with hA _ hcc
  subst hA
  obtain ⟨b', off', c'', hsl', _, cc0, cc1, cd0, cd1⟩ := pairs_two (HV1.out.below hb2) HC.out HD.out
  injection hsl' with hA' _ hcc'
  injection hA' with hA'
  injection hA' with hA1 hA2
  subst hA1 hA2
  clear hcc hcc'
  have HEQ := hid heq
  clear heq
  clear g0 g1
  have B2 := hid (B1.out.below hb2)
  have M2 := hid (M1.out.below hb2)
  have f0 := B2.out.c0
  have f1 := B2.out.c1
  have g0 := M2.out.c0
  have g1 := M2.out.c1
  have lt1 := B2.out.lt
  have lt2 := M2.out.lt
  clear hb2
  have BA : Hid (Box2 ((((w2.alloc (.cells #[.int .i64 ax, .int .i64 ay] 38)).alloc (.cells #[.int .i64 bx, .int .i64 by'] 38)).alloc (.cells #[.int .i64 cx, .int .i64 cy] 38)).alloc (.cells #[.int .i64 dx, .int .i64 dy] 38)) (w2.heap.size) ax ay) := hid ((((Box2.new _ _ _ _ _ rfl).alloc _).alloc _).alloc _)
  have BB : Hid (Box2 ((((w2.alloc (.cells #[.int .i64 ax, .int .i64 ay] 38)).alloc (.cells #[.int .i64 bx, .int .i64 by'] 38)).alloc (.cells #[.int .i64 cx, .int .i64 cy] 38)).alloc (.cells #[.int .i64 dx, .int .i64 dy] 38)) (w2.heap.size + 1) bx by') := hid (((Box2.new _ _ _ _ _ (by simp)).alloc _).alloc _)
  have BC : Hid (Box2 ((((w2.alloc (.cells #[.int .i64 ax, .int .i64 ay] 38)).alloc (.cells #[.int .i64 bx, .int .i64 by'] 38)).alloc (.cells #[.int .i64 cx, .int .i64 cy] 38)).alloc (.cells #[.int .i64 dx, .int .i64 dy] 38)) (w2.heap.size + 1 + 1) cx cy) := hid ((Box2.new _ _ _ _ _ (by simp)).alloc _)
  have BD : Hid (Box2 ((((w2.alloc (.cells #[.int .i64 ax, .int .i64 ay] 38)).alloc (.cells #[.int .i64 bx, .int .i64 by'] 38)).alloc (.cells #[.int .i64 cx, .int .i64 cy] 38)).alloc (.cells #[.int .i64 dx, .int .i64 dy] 38)) (w2.heap.size + 1 + 1 + 1) dx dy) := hid (Box2.new _ _ _ _ _ (by simp))
  have S4 := hid ((((S2.out.alloc zs2 (.cells #[.int .i64 ax, .int .i64 ay] 38)).alloc (by simp; omega) (.cells #[.int .i64 bx, .int .i64 by'] 38)).alloc (by simp; omega) (.cells #[.int .i64 cx, .int .i64 cy] 38)).alloc (by simp; omega) (.cells #[.int .i64 dx, .int .i64 dy] 38))
  have z4 := S4.out.size
  have heq := HEQ.out
  have l1 : b < w2.heap.size + 1 := by omega
  have l2 : b < w2.heap.size + 1 + 1 := by omega
  have l3 : b < w2.heap.size + 1 + 1 + 1 := by omega
  cases p1 : betw ax ay bx by' cx cy
  rotate_left
  · (
     go_wp2_with fail
     refine (sBetw_any _ _ _ _ _ _ _).mono ?_
     rintro e v0 ⟨rfl, hv0⟩
     rw [p1]
     have BA := hid (BA.out.below hv0)
     have BB := hid (BB.out.below hv0)
     have BC := hid (BC.out.below hv0)
     have BD := hid (BD.out.below hv0)
     have S5 := hid (then_ S4.out hv0 S4.out.size)
     clear hv0
     have fa0 := BA.out.c0
     have fa1 := BA.out.c1
     have fb0 := BB.out.c0
     have fb1 := BB.out.c1
     have fc0 := BC.out.c0
     have fc1 := BC.out.c1
     have fd0 := BD.out.c0
     have fd1 := BD.out.c1
     go_wp2
     go_ret
     exact ⟨ret_bool (by rw [V.out]; simp [crossB, sameB, midB, overB, tn3, p1]), S5.out⟩)
  go_wp2_with fail
  refine (sBetw_any _ _ _ _ _ _ _).mono ?_
  rintro e v0 ⟨rfl, hv0⟩
  rw [p1]
  have BA := hid (BA.out.below hv0)
  have BB := hid (BB.out.below hv0)
  have BC := hid (BC.out.below hv0)
  have BD := hid (BD.out.below hv0)
  have S5 := hid (then_ S4.out hv0 S4.out.size)
  clear hv0
  have fa0 := BA.out.c0
  have fa1 := BA.out.c1
  have fb0 := BB.out.c0
  have fb1 := BB.out.c1
  have fc0 := BC.out.c0
  have fc1 := BC.out.c1
  have fd0 := BD.out.c0
  have fd1 := BD.out.c1
  cases p2 : betw ax ay bx by' dx dy
  rotate_left
  · (
     go_wp2_with fail
     refine (sBetw_any _ _ _ _ _ _ _).mono ?_
     rintro e v1 ⟨rfl, hv1⟩
     rw [p2]
     clear fa0 fa1 fb0 fb1 fc0 fc1 fd0 fd1
     have BA := hid (BA.out.below hv1)
     have BB := hid (BB.out.below hv1)
     have BC := hid (BC.out.below hv1)
     have BD := hid (BD.out.below hv1)
     have S6 := hid (then_ S5.out hv1 S5.out.size)
     clear hv1
     have fa0 := BA.out.c0
     have fa1 := BA.out.c1
     have fb0 := BB.out.c0
     have fb1 := BB.out.c1
     have fc0 := BC.out.c0
     have fc1 := BC.out.c1
     have fd0 := BD.out.c0
     have fd1 := BD.out.c1
     go_wp2
     go_ret
     exact ⟨ret_bool (by rw [V.out]; simp [crossB, sameB, midB, overB, tn3, p1, p2]), S6.out⟩)
  go_wp2_with fail
  refine (sBetw_any _ _ _ _ _ _ _).mono ?_
  rintro e v1 ⟨rfl, hv1⟩
  rw [p2]
  clear fa0 fa1 fb0 fb1 fc0 fc1 fd0 fd1
  have BA := hid (BA.out.below hv1)
  have BB := hid (BB.out.below hv1)
  have BC := hid (BC.out.below hv1)
  have BD := hid (BD.out.below hv1)
  have S6 := hid (then_ S5.out hv1 S5.out.size)
  clear hv1
  have fa0 := BA.out.c0
  have fa1 := BA.out.c1
  have fb0 := BB.out.c0
  have fb1 := BB.out.c1
  have fc0 := BC.out.c0
  have fc1 := BC.out.c1
  have fd0 := BD.out.c0
  have fd1 := BD.out.c1
  cases p3 : betw cx cy dx dy ax ay
  rotate_left
  · (
     go_wp2_with fail
     refine (sBetw_any _ _ _ _ _ _ _).mono ?_
     rintro e v2 ⟨rfl, hv2⟩
     rw [p3]
     clear fa0 fa1 fb0 fb1 fc0 fc1 fd0 fd1
     have BA := hid (BA.out.below hv2)
     have BB := hid (BB.out.below hv2)
     have BC := hid (BC.out.below hv2)
     have BD := hid (BD.out.below hv2)
     have S7 := hid (then_ S6.out hv2 S6.out.size)
     clear hv2
     have fa0 := BA.out.c0
     have fa1 := BA.out.c1
     have fb0 := BB.out.c0
     have fb1 := BB.out.c1
     have fc0 := BC.out.c0
     have fc1 := BC.out.c1
     have fd0 := BD.out.c0
     have fd1 := BD.out.c1
     go_wp2
     go_ret
     exact ⟨ret_bool (by rw [V.out]; simp [crossB, sameB, midB, overB, tn3, p1, p2, p3]), S7.out⟩)
  go_wp2_with fail
  refine (sBetw_any _ _ _ _ _ _ _).mono ?_
  rintro e v2 ⟨rfl, hv2⟩
  rw [p3]
  clear fa0 fa1 fb0 fb1 fc0 fc1 fd0 fd1
  have BA := hid (BA.out.below hv2)
  have BB := hid (BB.out.below hv2)
  have BC := hid (BC.out.below hv2)
  have BD := hid (BD.out.below hv2)
  have S7 := hid (then_ S6.out hv2 S6.out.size)
  clear hv2
  have fa0 := BA.out.c0
  have fa1 := BA.out.c1
  have fb0 := BB.out.c0
  have fb1 := BB.out.c1
  have fc0 := BC.out.c0
  have fc1 := BC.out.c1
  have fd0 := BD.out.c0
  have fd1 := BD.out.c1
  cases p4 : betw cx cy dx dy bx by'
  rotate_left
  · (
     go_wp2_with fail
     refine (sBetw_any _ _ _ _ _ _ _).mono ?_
     rintro e v3 ⟨rfl, hv3⟩
     rw [p4]
     clear fa0 fa1 fb0 fb1 fc0 fc1 fd0 fd1
     have BA := hid (BA.out.below hv3)
     have BB := hid (BB.out.below hv3)
     have BC := hid (BC.out.below hv3)
     have BD := hid (BD.out.below hv3)
     have S8 := hid (then_ S7.out hv3 S7.out.size)
     clear hv3
     have fa0 := BA.out.c0
     have fa1 := BA.out.c1
     have fb0 := BB.out.c0
     have fb1 := BB.out.c1
     have fc0 := BC.out.c0
     have fc1 := BC.out.c1
     have fd0 := BD.out.c0
     have fd1 := BD.out.c1
     go_wp2
     go_ret
     exact ⟨ret_bool (by rw [V.out]; simp [crossB, sameB, midB, overB, tn3, p1, p2, p3, p4]), S8.out⟩)
  go_wp2_with fail
  refine (sBetw_any _ _ _ _ _ _ _).mono ?_
  rintro e v3 ⟨rfl, hv3⟩
  rw [p4]
  clear fa0 fa1 fb0 fb1 fc0 fc1 fd0 fd1
  have BA := hid (BA.out.below hv3)
  have BB := hid (BB.out.below hv3)
  have BC := hid (BC.out.below hv3)
  have BD := hid (BD.out.below hv3)
  have S8 := hid (then_ S7.out hv3 S7.out.size)
  clear hv3
  have fa0 := BA.out.c0
  have fa1 := BA.out.c1
  have fb0 := BB.out.c0
  have fb1 := BB.out.c1
  have fc0 := BC.out.c0
  have fc1 := BC.out.c1
  have fd0 := BD.out.c0
  have fd1 := BD.out.c1
  cases e1 : eqP ax ay cx cy
  · cases e2 : eqP bx by' dx dy
    · cases e3 : eqP ax ay dx dy
      · cases e4 : eqP bx by' cx cy
        · obtain ⟨o1, o2, o3, o4⟩ := OK.out
          have u1 := prod_bd (m := 1) (n := 1) (by omega) (sgn_bd (tn ax ay bx by' cx cy)) (sgn_bd (tn ax ay bx by' dx dy))
          have q1 : IntKind.i64.wrap (sgn (tn ax ay bx by' cx cy) * sgn (tn ax ay bx by' dx dy)) = sgn (tn ax ay bx by' cx cy) * sgn (tn ax ay bx by' dx dy) := IntWalk.i64_in _ (by omega)
          have u2 := prod_bd (m := 1) (n := 1) (by omega) (sgn_bd (tn cx cy dx dy ax ay)) (sgn_bd (tn cx cy dx dy bx by'))
          have q2 : IntKind.i64.wrap (sgn (tn cx cy dx dy ax ay) * sgn (tn cx cy dx dy bx by')) = sgn (tn cx cy dx dy ax ay) * sgn (tn cx cy dx dy bx by') := IntWalk.i64_in _ (by omega)
          clear u1 u2
          have mfa0 := fun p => (BA.out.mv p).c0
          have mfa1 := fun p => (BA.out.mv p).c1
          have mfb0 := fun p => (BB.out.mv p).c0
          have mfb1 := fun p => (BB.out.mv p).c1
          have mfc0 := fun p => (BC.out.mv p).c0
          have mfc1 := fun p => (BC.out.mv p).c1
          have mfd0 := fun p => (BD.out.mv p).c0
          have mfd1 := fun p => (BD.out.mv p).c1
          cases k1 : decide (sgn (tn ax ay bx by' cx cy) * sgn (tn ax ay bx by' dx dy) < 0)
          all_goals
            go_wp2_with fail
            refine wp_region_mv (by kernel_rfl) (by kernel_rfl) ?_
            repeat (go_big_quiet_step ((first | (go_at_call 41; exact calls_mv (l02Turn_any _ _ _ _ _ _ (by assumption) _)) | (go_at_call 40; exact calls_mv_same (l03Sign_any _ _)))))
            refine wpQuiet_nil ?_
            intro _ hw'
            obtain ⟨q, hw''⟩ := hw'
            subst hw''
            go_wp2
            go_ret
            refine ⟨ret_bool ?_, then_ S8.out (below_mv _ q) S8.out.size⟩
            rw [V.out]
            have M1 := sgn_mul (tn ax ay bx by' cx cy) (tn ax ay bx by' dx dy)
            have M2 := sgn_mul (tn cx cy dx dy ax ay) (tn cx cy dx dy bx by')
            (first | (have k9 := of_decide_eq_false (M1.symm.trans k1); simp only [crossB, sameB, midB, overB, tn3, e1, e2, e3, e4, p1, p2, p3, p4, k9, decide_false, Bool.false_and, Bool.true_and, Bool.and_false, Bool.or_false, Bool.false_or]; done) | (have k9 := of_decide_eq_true (M1.symm.trans k1); simp only [crossB, sameB, midB, overB, tn3, e1, e2, e3, e4, p1, p2, p3, p4, k9, decide_true, Bool.false_and, Bool.true_and, Bool.and_false, Bool.or_false, Bool.false_or]; exact decide_eq_decide.mpr (decide_eq_decide.mp M2)))
        · have z := over_shared ax ay bx by' cx cy dx dy (by simp [e1, e2, e3, e4])
          have Z := hid z
          clear z
          go_wp2
          go_ret
          exact ⟨ret_bool (by have z := Z.out; rw [V.out]; simp [crossB, sameB, midB, overB, tn3, e1, e2, e3, e4, p1, p2, p3, p4, z]), S8.out⟩
      · cases e4 : eqP bx by' cx cy
        · have z := over_shared ax ay bx by' cx cy dx dy (by simp [e1, e2, e3, e4])
          have Z := hid z
          clear z
          go_wp2
          go_ret
          exact ⟨ret_bool (by have z := Z.out; rw [V.out]; simp [crossB, sameB, midB, overB, tn3, e1, e2, e3, e4, p1, p2, p3, p4, z]), S8.out⟩
        · go_wp2
          go_ret
          exact ⟨ret_bool (by rw [V.out]; simp [crossB, sameB, midB, overB, tn3, e1, e2, e3, e4, p1, p2, p3, p4]), S8.out⟩
    · cases e3 : eqP ax ay dx dy
      · cases e4 : eqP bx by' cx cy
        · have z := over_shared ax ay bx by' cx cy dx dy (by simp [e1, e2, e3, e4])
          have Z := hid z
          clear z
          go_wp2
          go_ret
          exact ⟨ret_bool (by have z := Z.out; rw [V.out]; simp [crossB, sameB, midB, overB, tn3, e1, e2, e3, e4, p1, p2, p3, p4, z]), S8.out⟩
        · have z := over_shared ax ay bx by' cx cy dx dy (by simp [e1, e2, e3, e4])
          have Z := hid z
          clear z
          go_wp2
          go_ret
          exact ⟨ret_bool (by have z := Z.out; rw [V.out]; simp [crossB, sameB, midB, overB, tn3, e1, e2, e3, e4, p1, p2, p3, p4, z]), S8.out⟩
      · cases e4 : eqP bx by' cx cy
        · have z := over_shared ax ay bx by' cx cy dx dy (by simp [e1, e2, e3, e4])
          have Z := hid z
          clear z
          go_wp2
          go_ret
          exact ⟨ret_bool (by have z := Z.out; rw [V.out]; simp [crossB, sameB, midB, overB, tn3, e1, e2, e3, e4, p1, p2, p3, p4, z]), S8.out⟩
        · go_wp2
          go_ret
          exact ⟨ret_bool (by rw [V.out]; simp [crossB, sameB, midB, overB, tn3, e1, e2, e3, e4, p1, p2, p3, p4]), S8.out⟩
  · cases e2 : eqP bx by' dx dy
    · cases e3 : eqP ax ay dx dy
      · cases e4 : eqP bx by' cx cy
        · have z := over_shared ax ay bx by' cx cy dx dy (by simp [e1, e2, e3, e4])
          have Z := hid z
          clear z
          go_wp2
          go_ret
          exact ⟨ret_bool (by have z := Z.out; rw [V.out]; simp [crossB, sameB, midB, overB, tn3, e1, e2, e3, e4, p1, p2, p3, p4, z]), S8.out⟩
        · have z := over_shared ax ay bx by' cx cy dx dy (by simp [e1, e2, e3, e4])
          have Z := hid z
          clear z
          go_wp2
          go_ret
          exact ⟨ret_bool (by have z := Z.out; rw [V.out]; simp [crossB, sameB, midB, overB, tn3, e1, e2, e3, e4, p1, p2, p3, p4, z]), S8.out⟩
      · cases e4 : eqP bx by' cx cy
        · have z := over_shared ax ay bx by' cx cy dx dy (by simp [e1, e2, e3, e4])
          have Z := hid z
          clear z
          go_wp2
          go_ret
          exact ⟨ret_bool (by have z := Z.out; rw [V.out]; simp [crossB, sameB, midB, overB, tn3, e1, e2, e3, e4, p1, p2, p3, p4, z]), S8.out⟩
        · go_wp2
          go_ret
          exact ⟨ret_bool (by rw [V.out]; simp [crossB, sameB, midB, overB, tn3, e1, e2, e3, e4, p1, p2, p3, p4]), S8.out⟩
    · cases e3 : eqP ax ay dx dy
      · cases e4 : eqP bx by' cx cy
        · go_wp2
          go_ret
          exact ⟨ret_bool (by rw [V.out]; simp [crossB, sameB, midB, overB, tn3, e1, e2, e3, e4, p1, p2, p3, p4]), S8.out⟩
        · go_wp2
          go_ret
          exact ⟨ret_bool (by rw [V.out]; simp [crossB, sameB, midB, overB, tn3, e1, e2, e3, e4, p1, p2, p3, p4]), S8.out⟩
      · cases e4 : eqP bx by' cx cy
        · go_wp2
          go_ret
          exact ⟨ret_bool (by rw [V.out]; simp [crossB, sameB, midB, overB, tn3, e1, e2, e3, e4, p1, p2, p3, p4]), S8.out⟩
        · go_wp2
          go_ret
          exact ⟨ret_bool (by rw [V.out]; simp [crossB, sameB, midB, overB, tn3, e1, e2, e3, e4, p1, p2, p3, p4]), S8.out⟩
theorem sCross_any (v : Value) (ns : List (Int × Int)) (f t g u : Int) (w : World) (hv : PairsAt w v ns) : Calls Try.prog 37 #[v, .agg #[.int .i64 f, .int .i64 t], .agg #[.int .i64 g, .int .i64 u]] w fun e w' => e = .returned (.bool (doCrossB ns f t g u)) ∧ Below w.heap.size w w' := by
  cases hL : leadOkB ns f t
  · exact sCross_n1 _ _ _ _ _ _ _ hv hL
  cases hM : leadOkB ns g u
  · exact sCross_n2 _ _ _ _ _ _ _ hv hL hM
  · exact sCross_y _ _ _ _ _ _ _ hv hL hM
end Go.Proofs.Ytbijbohkpjnjnaa

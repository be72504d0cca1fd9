/- The walk of the law FnNodes: it returns true whatever bytes it draws from. No condition. -/
import Derived.Test.YtcfopbkahlkolaaDrawP
import Derived.Test.YtcfopbkahlkolaaNodeL
import Derived.Test.YtcfopbkahlkolaaNodee
namespace Go.Proofs.Ytcfopbkahlkolaa
open Go.ChangeShapes Go.WideShapes Go.ChangeAt Go.RowKit
set_option maxHeartbeats 6000000
set_option maxRecDepth 100000
set_option linter.unusedSimpArgs false
set_option linter.unusedVariables false
theorem neq_nodeN (a b c d : Int) (w : World) : (binOp .neq 26 (.agg #[.int .i64 a, .int .i64 b]) (.agg #[.int .i64 c, .int .i64 d])).run Try.prog w = .ok (.bool (!eqP a b c d)) w := by
  have hS : Try.prog.underlying 26 = some (.struct (Try.prog.fieldsOf 26)) := by kernel_rfl
  have hp : Try.prog.stoodInHeld 26 = false := by kernel_rfl
  have u3 := Try.underlying3
  rw [run_neq_struct, show (10000 : Nat) = 9999 + 1 from rfl, run_equalIn_agg w 9999 26 _ _ hS hp]
  simp only [Program.fieldsOf, Try.underlying26]
  go_simp
  by_cases h1 : a = c <;> by_cases h2 : b = d <;> simp [h1, h2, eqP]
theorem FnNodes_walk (w : World) (A : Option Addr) (n c : Nat) (hb : LoBytes w A n) (hn : n ≤ maxLen) : Calls Try.prog 14 #[.slice A n c] w fun e w' => e = .returned (.bool true) ∧ Below w.heap.size w w' := by
  have LB := hid hb
  clear hb
  by_cases hbig : 1048576 < n
  · have hd : decide (1048576 < n) = true := by simpa using hbig
    have BG := hid (big_any A n c w hn)
    rw [hd] at BG
    go_enter Try.func14, Try.ntmps14
    go_wp2_with fail
    refine BG.out.mono ?_
    rintro e w' ⟨rfl, rfl⟩
    go_wp2
    go_ret
    exact ⟨rfl, Below.refl _ _⟩
  · have hd : decide (1048576 < n) = false := by simpa using hbig
    have BG := hid (big_any A n c w hn)
    rw [hd] at BG
    clear hd
    have heq := eql_node
    have hnq := neq_nodeN
    go_enter Try.func14, Try.ntmps14
    go_wp2_with fail
    refine BG.out.mono ?_
    rintro e w' ⟨rfl, rfl⟩
    go_wp2_with fail
    refine (Bd.drawNodes_any A n c _ LB.out (by omega)).mono ?_
    rintro e w1 ⟨ax, ay, bx, by', cx, cy, ha, hb, hc, rfl, hb1⟩
    go_wp2_with fail
    obtain ⟨ok3, ok2, ok1⟩ := ok_small ha hb hc
    clear ha hb hc
    have X1 := hid (((Box2.new w1 ax ay 26 w1.heap.size rfl).alloc (.cells #[.int .i64 bx, .int .i64 by'] 26)).alloc (.cells #[.int .i64 cx, .int .i64 cy] 26))
    have X2 := hid ((Box2.new (w1.alloc (.cells #[.int .i64 ax, .int .i64 ay] 26)) bx by' 26 (w1.heap.size + 1) (by simp)).alloc (.cells #[.int .i64 cx, .int .i64 cy] 26))
    have X3 := hid (Box2.new ((w1.alloc (.cells #[.int .i64 ax, .int .i64 ay] 26)).alloc (.cells #[.int .i64 bx, .int .i64 by'] 26)) cx cy 26 (w1.heap.size + 1 + 1) (by simp))
    have S := hid (((hb1.alloc hb1.size (.cells #[.int .i64 ax, .int .i64 ay] 26)).alloc (by have := hb1.size; simp; omega) (.cells #[.int .i64 bx, .int .i64 by'] 26)).alloc (by have := hb1.size; simp; omega) (.cells #[.int .i64 cx, .int .i64 cy] 26))
    clear hb1 BG LB
    obtain ⟨T, eT⟩ : ∃ x, turnF ax ay bx by' cx cy = x := ⟨_, rfl⟩
    obtain ⟨L, eL⟩ : ∃ x, lenSq ax ay bx by' = x := ⟨_, rfl⟩
    obtain ⟨H1, eH1⟩ : ∃ x, half ax ay bx by' = x := ⟨_, rfl⟩
    obtain ⟨H2, eH2⟩ : ∃ x, half ax ay cx cy = x := ⟨_, rfl⟩
    obtain ⟨H3, eH3⟩ : ∃ x, half bx by' ax ay = x := ⟨_, rfl⟩
    obtain ⟨B1, eB1⟩ : ∃ x, betw ax ay bx by' cx cy = x := ⟨_, rfl⟩
    obtain ⟨B2, eB2⟩ : ∃ x, betw bx by' ax ay cx cy = x := ⟨_, rfl⟩
    obtain ⟨B3, eB3⟩ : ∃ x, betw ax ay cx cy bx by' = x := ⟨_, rfl⟩
    obtain ⟨F1, eF1⟩ : ∃ x, bef ax ay bx by' cx cy = x := ⟨_, rfl⟩
    obtain ⟨F2, eF2⟩ : ∃ x, bef ax ay cx cy bx by' = x := ⟨_, rfl⟩
    obtain ⟨E1, eE1⟩ : ∃ x, eqP ax ay bx by' = x := ⟨_, rfl⟩
    obtain ⟨E2, eE2⟩ : ∃ x, eqP ax ay cx cy = x := ⟨_, rfl⟩
    have CT1 : Hid (∀ W : World, Calls Try.prog 32 #[.agg #[.int .i64 ax, .int .i64 ay], .agg #[.int .i64 bx, .int .i64 by'], .agg #[.int .i64 cx, .int .i64 cy]] W fun e w' => e = .returned (.int .i64 T) ∧ Below W.heap.size W w') := hid (fun W => by have h := iTurnOf_any ax ay bx by' cx cy W; rw [eT] at h; exact h)
    have CT2 : Hid (∀ W : World, Calls Try.prog 32 #[.agg #[.int .i64 ax, .int .i64 ay], .agg #[.int .i64 cx, .int .i64 cy], .agg #[.int .i64 bx, .int .i64 by']] W fun e w' => e = .returned (.int .i64 (-T)) ∧ Below W.heap.size W w') := hid (fun W => by have h := iTurnOf_any ax ay cx cy bx by' W; rw [turn_back, eT] at h; exact h)
    have CT3 : Hid (∀ W : World, Calls Try.prog 32 #[.agg #[.int .i64 bx, .int .i64 by'], .agg #[.int .i64 cx, .int .i64 cy], .agg #[.int .i64 ax, .int .i64 ay]] W fun e w' => e = .returned (.int .i64 T) ∧ Below W.heap.size W w') := hid (fun W => by have h := iTurnOf_any bx by' cx cy ax ay W; rw [turn_round, eT] at h; exact h)
    have CL1 : Hid (∀ W : World, Calls Try.prog 30 #[.agg #[.int .i64 ax, .int .i64 ay], .agg #[.int .i64 bx, .int .i64 by']] W fun e w' => e = .returned (.int .i64 L) ∧ Below W.heap.size W w') := hid (fun W => by have h := iLen_any ax ay bx by' W; rw [eL] at h; exact h)
    have CL2 : Hid (∀ W : World, Calls Try.prog 30 #[.agg #[.int .i64 bx, .int .i64 by'], .agg #[.int .i64 ax, .int .i64 ay]] W fun e w' => e = .returned (.int .i64 L) ∧ Below W.heap.size W w') := hid (fun W => by have h := iLen_any bx by' ax ay W; rw [len_back, eL] at h; exact h)
    have CB1 : Hid (∀ W : World, Calls Try.prog 34 #[.agg #[.int .i64 ax, .int .i64 ay], .agg #[.int .i64 bx, .int .i64 by'], .agg #[.int .i64 cx, .int .i64 cy]] W fun e w' => e = .returned (.bool B1) ∧ Below W.heap.size W w') := hid (fun W => by have h := iBetw_any ax ay bx by' cx cy W; rw [eB1] at h; exact h)
    have CB2 : Hid (∀ W : World, Calls Try.prog 34 #[.agg #[.int .i64 bx, .int .i64 by'], .agg #[.int .i64 ax, .int .i64 ay], .agg #[.int .i64 cx, .int .i64 cy]] W fun e w' => e = .returned (.bool B2) ∧ Below W.heap.size W w') := hid (fun W => by have h := iBetw_any bx by' ax ay cx cy W; rw [eB2] at h; exact h)
    have CB3 : Hid (∀ W : World, Calls Try.prog 34 #[.agg #[.int .i64 ax, .int .i64 ay], .agg #[.int .i64 cx, .int .i64 cy], .agg #[.int .i64 bx, .int .i64 by']] W fun e w' => e = .returned (.bool B3) ∧ Below W.heap.size W w') := hid (fun W => by have h := iBetw_any ax ay cx cy bx by' W; rw [eB3] at h; exact h)
    have CF1 : Hid (∀ W : World, Calls Try.prog 36 #[.agg #[.int .i64 ax, .int .i64 ay], .agg #[.int .i64 bx, .int .i64 by'], .agg #[.int .i64 cx, .int .i64 cy]] W fun e w' => e = .returned (.bool F1) ∧ Below W.heap.size W w') := hid (fun W => by have h := iBef_any ax ay bx by' cx cy W; rw [eF1] at h; exact h)
    have CF2 : Hid (∀ W : World, Calls Try.prog 36 #[.agg #[.int .i64 ax, .int .i64 ay], .agg #[.int .i64 cx, .int .i64 cy], .agg #[.int .i64 bx, .int .i64 by']] W fun e w' => e = .returned (.bool F2) ∧ Below W.heap.size W w') := hid (fun W => by have h := iBef_any ax ay cx cy bx by' W; rw [eF2] at h; exact h)
    have CH1 : Hid (∀ W : World, Calls Try.prog 26 #[.agg #[.int .i64 ax, .int .i64 ay], .agg #[.int .i64 bx, .int .i64 by']] W fun e w' => e = .returned (.int .i64 H1) ∧ Below W.heap.size W w') := hid (fun W => by have h := iHalf_any ax ay bx by' W; rw [eH1] at h; exact h)
    have CH2 : Hid (∀ W : World, Calls Try.prog 26 #[.agg #[.int .i64 ax, .int .i64 ay], .agg #[.int .i64 cx, .int .i64 cy]] W fun e w' => e = .returned (.int .i64 H2) ∧ Below W.heap.size W w') := hid (fun W => by have h := iHalf_any ax ay cx cy W; rw [eH2] at h; exact h)
    have CH3 : Hid (∀ W : World, Calls Try.prog 26 #[.agg #[.int .i64 bx, .int .i64 by'], .agg #[.int .i64 ax, .int .i64 ay]] W fun e w' => e = .returned (.int .i64 H3) ∧ Below W.heap.size W w') := hid (fun W => by have h := iHalf_any bx by' ax ay W; rw [eH3] at h; exact h)
    have CN : Hid (∀ W : World, Calls Try.prog 17 #[.agg #[.int .i64 ax, .int .i64 ay]] W fun e w' => e = .returned (.bool true) ∧ Below W.heap.size W w') := hid (fun W => by have h := iNodeOk_any ax ay W; rw [ok1] at h; exact h)
    have CT4 : Hid (∀ W : World, Calls Try.prog 32 #[.agg #[.int .i64 0, .int .i64 0], .agg #[.int .i64 2, .int .i64 0], .agg #[.int .i64 0, .int .i64 3]] W fun e w' => e = .returned (.int .i64 6) ∧ Below W.heap.size W w') := hid (fun W => iTurnOf_any 0 0 2 0 0 3 W)
    have P1 := len_zero ok2
    have P2 := bef_law ok3
    have P3 := half_law ax ay bx by'
    have P4 := turn_bd ok3
    have P5 := len_bd ok2
    have P6 : B1 = true → T = 0 ∧ B2 = true ∧ B3 = false := fun h => by have := betw_law (eB1.trans h); rw [eT, eB2, eB3] at this; exact this
    rw [eL, eE1] at P1
    rw [eF1, eF2, eT, eH1, eH2] at P2
    rw [eH1, eH3, eE1] at P3
    rw [eT] at P4
    rw [eL] at P5
    have Q1 := hid P1
    have Q2 := hid P2
    have Q3 := hid P3
    have Q6 := hid P6
    clear P1 P2 P3 P6 eT eL eH1 eH2 eH3 eB1 eB2 eB3 eF1 eF2 ok1 ok2 ok3
    have HC : (E1 = true ∧ L = 0 ∧ H3 = H1) ∨ (E1 = false ∧ (L == 0) = false ∧ (H1 != H3) = true) := by
      cases E1
      · right; refine ⟨rfl, ?_, ?_⟩
        · simp; exact fun h => by simpa using Q1.out.1 h
        · simp; exact fun h => by simpa using Q3.out.1 h
      · left; exact ⟨rfl, Q1.out.2 rfl, (Q3.out.2 rfl).symm⟩
    have HT : T = 0 ∨ ((T == 0) = false ∧ (T != 0) = true) := by
      by_cases h : T = 0
      · exact .inl h
      · right; simp [h]
    have HB : B1 = false ∨ (B1 = true ∧ T = 0 ∧ B2 = true ∧ B3 = false) := by
      cases B1
      · exact .inl rfl
      · exact .inr ⟨rfl, Q6.out rfl⟩
    have HS : (F1 = true ∧ F2 = false ∧ (T = 0 → (H1 == H2) = false)) ∨ (F1 = false ∧ F2 = true ∧ (T = 0 → (H1 == H2) = false)) ∨ (F1 = false ∧ F2 = false ∧ T = 0 ∧ H2 = H1) := by
      obtain ⟨q1, q2⟩ := Q2.out
      cases F1 <;> cases F2
      · have := q2.1 ⟨rfl, rfl⟩; exact .inr (.inr ⟨rfl, rfl, this.1, this.2.symm⟩)
      · refine .inr (.inl ⟨rfl, rfl, fun h => ?_⟩); simp; exact fun e => by have := q2.2 ⟨h, e⟩; simp at this
      · refine .inl ⟨rfl, rfl, fun h => ?_⟩; simp; exact fun e => by have := q2.2 ⟨h, e⟩; simp at this
      · exact absurd ⟨rfl, rfl⟩ q1
    clear Q1 Q2 Q3 Q6
    generalize w1.heap.size = g at X1 X2 X3 ⊢
    generalize ((w1.alloc _).alloc _).alloc _ = w2 at X1 X2 X3 S ⊢
    refine (CT1.out _).mono ?_
    rintro e w9 ⟨rfl, hb⟩
    replace X1 := hid (X1.out.below hb)
    replace X2 := hid (X2.out.below hb)
    replace X3 := hid (X3.out.below hb)
    replace S := hid (then_ S.out hb S.out.size)
    clear hb
    have x0 := X1.out.c0
    have x1 := X1.out.c1
    have x2 := X2.out.c0
    have x3 := X2.out.c1
    have x4 := X3.out.c0
    have x5 := X3.out.c1
    rcases HC with ⟨rfl, rfl, rfl⟩ | ⟨rfl, hl0, hh⟩
    · rcases HT with rfl | ⟨ht0, ht1⟩
      · clear HS
        rcases HB with rfl | ⟨rfl, _, rfl, rfl⟩
        · go_wp2_with fail
          have n0 := fun q => (X1.out.mv q).c0
          have n1 := fun q => (X1.out.mv q).c1
          have n2 := fun q => (X2.out.mv q).c0
          have n3 := fun q => (X2.out.mv q).c1
          have n4 := fun q => (X3.out.mv q).c0
          have n5 := fun q => (X3.out.mv q).c1
          clear x0 x1 x2 x3 x4 x5
          refine wp_region_mv (by kernel_rfl) (by kernel_rfl) ?_
          repeat (go_big_quiet_step (first | (with_reducible exact calls_mv (CT2.out _)) | (with_reducible exact calls_mv (CT3.out _)) | (with_reducible exact calls_mv (CL1.out _)) | (with_reducible exact calls_mv (CL2.out _))))
          refine wpQuiet_nil ?_
          intro _ hw'
          obtain ⟨q, hw''⟩ := hw'
          subst hw''
          clear n0 n1 n2 n3 n4 n5
          replace X1 := hid (X1.out.below (below_mv _ q))
          replace X2 := hid (X2.out.below (below_mv _ q))
          replace X3 := hid (X3.out.below (below_mv _ q))
          replace S := hid (then_ S.out (below_mv _ q) S.out.size)
          generalize mv _ q = w9 at X1 X2 X3 S ⊢
          have x0 := X1.out.c0
          have x1 := X1.out.c1
          have x2 := X2.out.c0
          have x3 := X2.out.c1
          have x4 := X3.out.c0
          have x5 := X3.out.c1
          go_wp2_with fail
          refine (CB1.out _).mono ?_
          rintro e w9 ⟨rfl, hb⟩
          replace X1 := hid (X1.out.below hb)
          replace X2 := hid (X2.out.below hb)
          replace X3 := hid (X3.out.below hb)
          replace S := hid (then_ S.out hb S.out.size)
          clear hb x0 x1 x2 x3 x4 x5
          have x0 := X1.out.c0
          have x1 := X1.out.c1
          have x2 := X2.out.c0
          have x3 := X2.out.c1
          have x4 := X3.out.c0
          have x5 := X3.out.c1
          go_wp2_with fail
          have n0 := fun q => (X1.out.mv q).c0
          have n1 := fun q => (X1.out.mv q).c1
          have n2 := fun q => (X2.out.mv q).c0
          have n3 := fun q => (X2.out.mv q).c1
          have n4 := fun q => (X3.out.mv q).c0
          have n5 := fun q => (X3.out.mv q).c1
          clear x0 x1 x2 x3 x4 x5
          refine wp_region_mv (by kernel_rfl) (by kernel_rfl) ?_
          repeat (go_big_quiet_step (first | (with_reducible exact calls_mv (CN.out _)) | (with_reducible exact calls_mv (CH1.out _)) | (with_reducible exact calls_mv (CH3.out _)) | (with_reducible exact calls_mv (CT4.out _))))
          refine wpQuiet_nil ?_
          intro _ hw'
          obtain ⟨q, hw''⟩ := hw'
          subst hw''
          clear n0 n1 n2 n3 n4 n5
          replace X1 := hid (X1.out.below (below_mv _ q))
          replace X2 := hid (X2.out.below (below_mv _ q))
          replace X3 := hid (X3.out.below (below_mv _ q))
          replace S := hid (then_ S.out (below_mv _ q) S.out.size)
          generalize mv _ q = w9 at X1 X2 X3 S ⊢
          have x0 := X1.out.c0
          have x1 := X1.out.c1
          have x2 := X2.out.c0
          have x3 := X2.out.c1
          have x4 := X3.out.c0
          have x5 := X3.out.c1
          go_wp2
          go_ret
          exact ⟨rfl, S.out⟩
        · go_wp2_with fail
          have n0 := fun q => (X1.out.mv q).c0
          have n1 := fun q => (X1.out.mv q).c1
          have n2 := fun q => (X2.out.mv q).c0
          have n3 := fun q => (X2.out.mv q).c1
          have n4 := fun q => (X3.out.mv q).c0
          have n5 := fun q => (X3.out.mv q).c1
          clear x0 x1 x2 x3 x4 x5
          refine wp_region_mv (by kernel_rfl) (by kernel_rfl) ?_
          repeat (go_big_quiet_step (first | (with_reducible exact calls_mv (CT2.out _)) | (with_reducible exact calls_mv (CT3.out _)) | (with_reducible exact calls_mv (CL1.out _)) | (with_reducible exact calls_mv (CL2.out _))))
          refine wpQuiet_nil ?_
          intro _ hw'
          obtain ⟨q, hw''⟩ := hw'
          subst hw''
          clear n0 n1 n2 n3 n4 n5
          replace X1 := hid (X1.out.below (below_mv _ q))
          replace X2 := hid (X2.out.below (below_mv _ q))
          replace X3 := hid (X3.out.below (below_mv _ q))
          replace S := hid (then_ S.out (below_mv _ q) S.out.size)
          generalize mv _ q = w9 at X1 X2 X3 S ⊢
          have x0 := X1.out.c0
          have x1 := X1.out.c1
          have x2 := X2.out.c0
          have x3 := X2.out.c1
          have x4 := X3.out.c0
          have x5 := X3.out.c1
          go_wp2_with fail
          refine (CB1.out _).mono ?_
          rintro e w9 ⟨rfl, hb⟩
          replace X1 := hid (X1.out.below hb)
          replace X2 := hid (X2.out.below hb)
          replace X3 := hid (X3.out.below hb)
          replace S := hid (then_ S.out hb S.out.size)
          clear hb x0 x1 x2 x3 x4 x5
          have x0 := X1.out.c0
          have x1 := X1.out.c1
          have x2 := X2.out.c0
          have x3 := X2.out.c1
          have x4 := X3.out.c0
          have x5 := X3.out.c1
          go_wp2_with fail
          refine (CB2.out _).mono ?_
          rintro e w9 ⟨rfl, hb⟩
          replace X1 := hid (X1.out.below hb)
          replace X2 := hid (X2.out.below hb)
          replace X3 := hid (X3.out.below hb)
          replace S := hid (then_ S.out hb S.out.size)
          clear hb x0 x1 x2 x3 x4 x5
          have x0 := X1.out.c0
          have x1 := X1.out.c1
          have x2 := X2.out.c0
          have x3 := X2.out.c1
          have x4 := X3.out.c0
          have x5 := X3.out.c1
          go_wp2_with fail
          refine (CB3.out _).mono ?_
          rintro e w9 ⟨rfl, hb⟩
          replace X1 := hid (X1.out.below hb)
          replace X2 := hid (X2.out.below hb)
          replace X3 := hid (X3.out.below hb)
          replace S := hid (then_ S.out hb S.out.size)
          clear hb x0 x1 x2 x3 x4 x5
          have x0 := X1.out.c0
          have x1 := X1.out.c1
          have x2 := X2.out.c0
          have x3 := X2.out.c1
          have x4 := X3.out.c0
          have x5 := X3.out.c1
          go_wp2_with fail
          have n0 := fun q => (X1.out.mv q).c0
          have n1 := fun q => (X1.out.mv q).c1
          have n2 := fun q => (X2.out.mv q).c0
          have n3 := fun q => (X2.out.mv q).c1
          have n4 := fun q => (X3.out.mv q).c0
          have n5 := fun q => (X3.out.mv q).c1
          clear x0 x1 x2 x3 x4 x5
          refine wp_region_mv (by kernel_rfl) (by kernel_rfl) ?_
          repeat (go_big_quiet_step (first | (with_reducible exact calls_mv (CN.out _)) | (with_reducible exact calls_mv (CH1.out _)) | (with_reducible exact calls_mv (CH3.out _)) | (with_reducible exact calls_mv (CT4.out _))))
          refine wpQuiet_nil ?_
          intro _ hw'
          obtain ⟨q, hw''⟩ := hw'
          subst hw''
          clear n0 n1 n2 n3 n4 n5
          replace X1 := hid (X1.out.below (below_mv _ q))
          replace X2 := hid (X2.out.below (below_mv _ q))
          replace X3 := hid (X3.out.below (below_mv _ q))
          replace S := hid (then_ S.out (below_mv _ q) S.out.size)
          generalize mv _ q = w9 at X1 X2 X3 S ⊢
          have x0 := X1.out.c0
          have x1 := X1.out.c1
          have x2 := X2.out.c0
          have x3 := X2.out.c1
          have x4 := X3.out.c0
          have x5 := X3.out.c1
          go_wp2
          go_ret
          exact ⟨rfl, S.out⟩
      · clear HS
        rcases HB with rfl | ⟨rfl, hz, rfl, rfl⟩
        rotate_left
        · rw [hz] at ht0; simp at ht0
        · go_wp2_with fail
          have n0 := fun q => (X1.out.mv q).c0
          have n1 := fun q => (X1.out.mv q).c1
          have n2 := fun q => (X2.out.mv q).c0
          have n3 := fun q => (X2.out.mv q).c1
          have n4 := fun q => (X3.out.mv q).c0
          have n5 := fun q => (X3.out.mv q).c1
          clear x0 x1 x2 x3 x4 x5
          refine wp_region_mv (by kernel_rfl) (by kernel_rfl) ?_
          repeat (go_big_quiet_step (first | (with_reducible exact calls_mv (CT2.out _)) | (with_reducible exact calls_mv (CT3.out _)) | (with_reducible exact calls_mv (CL1.out _)) | (with_reducible exact calls_mv (CL2.out _))))
          refine wpQuiet_nil ?_
          intro _ hw'
          obtain ⟨q, hw''⟩ := hw'
          subst hw''
          clear n0 n1 n2 n3 n4 n5
          replace X1 := hid (X1.out.below (below_mv _ q))
          replace X2 := hid (X2.out.below (below_mv _ q))
          replace X3 := hid (X3.out.below (below_mv _ q))
          replace S := hid (then_ S.out (below_mv _ q) S.out.size)
          generalize mv _ q = w9 at X1 X2 X3 S ⊢
          have x0 := X1.out.c0
          have x1 := X1.out.c1
          have x2 := X2.out.c0
          have x3 := X2.out.c1
          have x4 := X3.out.c0
          have x5 := X3.out.c1
          go_wp2_with fail
          refine (CB1.out _).mono ?_
          rintro e w9 ⟨rfl, hb⟩
          replace X1 := hid (X1.out.below hb)
          replace X2 := hid (X2.out.below hb)
          replace X3 := hid (X3.out.below hb)
          replace S := hid (then_ S.out hb S.out.size)
          clear hb x0 x1 x2 x3 x4 x5
          have x0 := X1.out.c0
          have x1 := X1.out.c1
          have x2 := X2.out.c0
          have x3 := X2.out.c1
          have x4 := X3.out.c0
          have x5 := X3.out.c1
          go_wp2_with fail
          have n0 := fun q => (X1.out.mv q).c0
          have n1 := fun q => (X1.out.mv q).c1
          have n2 := fun q => (X2.out.mv q).c0
          have n3 := fun q => (X2.out.mv q).c1
          have n4 := fun q => (X3.out.mv q).c0
          have n5 := fun q => (X3.out.mv q).c1
          clear x0 x1 x2 x3 x4 x5
          refine wp_region_mv (by kernel_rfl) (by kernel_rfl) ?_
          repeat (go_big_quiet_step (first | (with_reducible exact calls_mv (CN.out _)) | (with_reducible exact calls_mv (CH1.out _)) | (with_reducible exact calls_mv (CH3.out _)) | (with_reducible exact calls_mv (CT4.out _))))
          refine wpQuiet_nil ?_
          intro _ hw'
          obtain ⟨q, hw''⟩ := hw'
          subst hw''
          clear n0 n1 n2 n3 n4 n5
          replace X1 := hid (X1.out.below (below_mv _ q))
          replace X2 := hid (X2.out.below (below_mv _ q))
          replace X3 := hid (X3.out.below (below_mv _ q))
          replace S := hid (then_ S.out (below_mv _ q) S.out.size)
          generalize mv _ q = w9 at X1 X2 X3 S ⊢
          have x0 := X1.out.c0
          have x1 := X1.out.c1
          have x2 := X2.out.c0
          have x3 := X2.out.c1
          have x4 := X3.out.c0
          have x5 := X3.out.c1
          go_wp2
          go_ret
          exact ⟨rfl, S.out⟩
    · cases E2
      rotate_left
      · rcases HT with rfl | ⟨ht0, ht1⟩
        · clear HS
          rcases HB with rfl | ⟨rfl, _, rfl, rfl⟩
          · go_wp2_with fail
            have n0 := fun q => (X1.out.mv q).c0
            have n1 := fun q => (X1.out.mv q).c1
            have n2 := fun q => (X2.out.mv q).c0
            have n3 := fun q => (X2.out.mv q).c1
            have n4 := fun q => (X3.out.mv q).c0
            have n5 := fun q => (X3.out.mv q).c1
            clear x0 x1 x2 x3 x4 x5
            refine wp_region_mv (by kernel_rfl) (by kernel_rfl) ?_
            repeat (go_big_quiet_step (first | (with_reducible exact calls_mv (CT2.out _)) | (with_reducible exact calls_mv (CT3.out _)) | (with_reducible exact calls_mv (CL1.out _)) | (with_reducible exact calls_mv (CL2.out _))))
            refine wpQuiet_nil ?_
            intro _ hw'
            obtain ⟨q, hw''⟩ := hw'
            subst hw''
            clear n0 n1 n2 n3 n4 n5
            replace X1 := hid (X1.out.below (below_mv _ q))
            replace X2 := hid (X2.out.below (below_mv _ q))
            replace X3 := hid (X3.out.below (below_mv _ q))
            replace S := hid (then_ S.out (below_mv _ q) S.out.size)
            generalize mv _ q = w9 at X1 X2 X3 S ⊢
            have x0 := X1.out.c0
            have x1 := X1.out.c1
            have x2 := X2.out.c0
            have x3 := X2.out.c1
            have x4 := X3.out.c0
            have x5 := X3.out.c1
            go_wp2_with fail
            refine (CB1.out _).mono ?_
            rintro e w9 ⟨rfl, hb⟩
            replace X1 := hid (X1.out.below hb)
            replace X2 := hid (X2.out.below hb)
            replace X3 := hid (X3.out.below hb)
            replace S := hid (then_ S.out hb S.out.size)
            clear hb x0 x1 x2 x3 x4 x5
            have x0 := X1.out.c0
            have x1 := X1.out.c1
            have x2 := X2.out.c0
            have x3 := X2.out.c1
            have x4 := X3.out.c0
            have x5 := X3.out.c1
            go_wp2_with fail
            have n0 := fun q => (X1.out.mv q).c0
            have n1 := fun q => (X1.out.mv q).c1
            have n2 := fun q => (X2.out.mv q).c0
            have n3 := fun q => (X2.out.mv q).c1
            have n4 := fun q => (X3.out.mv q).c0
            have n5 := fun q => (X3.out.mv q).c1
            clear x0 x1 x2 x3 x4 x5
            refine wp_region_mv (by kernel_rfl) (by kernel_rfl) ?_
            repeat (go_big_quiet_step (first | (with_reducible exact calls_mv (CN.out _)) | (with_reducible exact calls_mv (CH1.out _)) | (with_reducible exact calls_mv (CH3.out _)) | (with_reducible exact calls_mv (CT4.out _))))
            refine wpQuiet_nil ?_
            intro _ hw'
            obtain ⟨q, hw''⟩ := hw'
            subst hw''
            clear n0 n1 n2 n3 n4 n5
            replace X1 := hid (X1.out.below (below_mv _ q))
            replace X2 := hid (X2.out.below (below_mv _ q))
            replace X3 := hid (X3.out.below (below_mv _ q))
            replace S := hid (then_ S.out (below_mv _ q) S.out.size)
            generalize mv _ q = w9 at X1 X2 X3 S ⊢
            have x0 := X1.out.c0
            have x1 := X1.out.c1
            have x2 := X2.out.c0
            have x3 := X2.out.c1
            have x4 := X3.out.c0
            have x5 := X3.out.c1
            go_wp2
            go_ret
            exact ⟨rfl, S.out⟩
          · go_wp2_with fail
            have n0 := fun q => (X1.out.mv q).c0
            have n1 := fun q => (X1.out.mv q).c1
            have n2 := fun q => (X2.out.mv q).c0
            have n3 := fun q => (X2.out.mv q).c1
            have n4 := fun q => (X3.out.mv q).c0
            have n5 := fun q => (X3.out.mv q).c1
            clear x0 x1 x2 x3 x4 x5
            refine wp_region_mv (by kernel_rfl) (by kernel_rfl) ?_
            repeat (go_big_quiet_step (first | (with_reducible exact calls_mv (CT2.out _)) | (with_reducible exact calls_mv (CT3.out _)) | (with_reducible exact calls_mv (CL1.out _)) | (with_reducible exact calls_mv (CL2.out _))))
            refine wpQuiet_nil ?_
            intro _ hw'
            obtain ⟨q, hw''⟩ := hw'
            subst hw''
            clear n0 n1 n2 n3 n4 n5
            replace X1 := hid (X1.out.below (below_mv _ q))
            replace X2 := hid (X2.out.below (below_mv _ q))
            replace X3 := hid (X3.out.below (below_mv _ q))
            replace S := hid (then_ S.out (below_mv _ q) S.out.size)
            generalize mv _ q = w9 at X1 X2 X3 S ⊢
            have x0 := X1.out.c0
            have x1 := X1.out.c1
            have x2 := X2.out.c0
            have x3 := X2.out.c1
            have x4 := X3.out.c0
            have x5 := X3.out.c1
            go_wp2_with fail
            refine (CB1.out _).mono ?_
            rintro e w9 ⟨rfl, hb⟩
            replace X1 := hid (X1.out.below hb)
            replace X2 := hid (X2.out.below hb)
            replace X3 := hid (X3.out.below hb)
            replace S := hid (then_ S.out hb S.out.size)
            clear hb x0 x1 x2 x3 x4 x5
            have x0 := X1.out.c0
            have x1 := X1.out.c1
            have x2 := X2.out.c0
            have x3 := X2.out.c1
            have x4 := X3.out.c0
            have x5 := X3.out.c1
            go_wp2_with fail
            refine (CB2.out _).mono ?_
            rintro e w9 ⟨rfl, hb⟩
            replace X1 := hid (X1.out.below hb)
            replace X2 := hid (X2.out.below hb)
            replace X3 := hid (X3.out.below hb)
            replace S := hid (then_ S.out hb S.out.size)
            clear hb x0 x1 x2 x3 x4 x5
            have x0 := X1.out.c0
            have x1 := X1.out.c1
            have x2 := X2.out.c0
            have x3 := X2.out.c1
            have x4 := X3.out.c0
            have x5 := X3.out.c1
            go_wp2_with fail
            refine (CB3.out _).mono ?_
            rintro e w9 ⟨rfl, hb⟩
            replace X1 := hid (X1.out.below hb)
            replace X2 := hid (X2.out.below hb)
            replace X3 := hid (X3.out.below hb)
            replace S := hid (then_ S.out hb S.out.size)
            clear hb x0 x1 x2 x3 x4 x5
            have x0 := X1.out.c0
            have x1 := X1.out.c1
            have x2 := X2.out.c0
            have x3 := X2.out.c1
            have x4 := X3.out.c0
            have x5 := X3.out.c1
            go_wp2_with fail
            have n0 := fun q => (X1.out.mv q).c0
            have n1 := fun q => (X1.out.mv q).c1
            have n2 := fun q => (X2.out.mv q).c0
            have n3 := fun q => (X2.out.mv q).c1
            have n4 := fun q => (X3.out.mv q).c0
            have n5 := fun q => (X3.out.mv q).c1
            clear x0 x1 x2 x3 x4 x5
            refine wp_region_mv (by kernel_rfl) (by kernel_rfl) ?_
            repeat (go_big_quiet_step (first | (with_reducible exact calls_mv (CN.out _)) | (with_reducible exact calls_mv (CH1.out _)) | (with_reducible exact calls_mv (CH3.out _)) | (with_reducible exact calls_mv (CT4.out _))))
            refine wpQuiet_nil ?_
            intro _ hw'
            obtain ⟨q, hw''⟩ := hw'
            subst hw''
            clear n0 n1 n2 n3 n4 n5
            replace X1 := hid (X1.out.below (below_mv _ q))
            replace X2 := hid (X2.out.below (below_mv _ q))
            replace X3 := hid (X3.out.below (below_mv _ q))
            replace S := hid (then_ S.out (below_mv _ q) S.out.size)
            generalize mv _ q = w9 at X1 X2 X3 S ⊢
            have x0 := X1.out.c0
            have x1 := X1.out.c1
            have x2 := X2.out.c0
            have x3 := X2.out.c1
            have x4 := X3.out.c0
            have x5 := X3.out.c1
            go_wp2
            go_ret
            exact ⟨rfl, S.out⟩
        · clear HS
          rcases HB with rfl | ⟨rfl, hz, rfl, rfl⟩
          rotate_left
          · rw [hz] at ht0; simp at ht0
          · go_wp2_with fail
            have n0 := fun q => (X1.out.mv q).c0
            have n1 := fun q => (X1.out.mv q).c1
            have n2 := fun q => (X2.out.mv q).c0
            have n3 := fun q => (X2.out.mv q).c1
            have n4 := fun q => (X3.out.mv q).c0
            have n5 := fun q => (X3.out.mv q).c1
            clear x0 x1 x2 x3 x4 x5
            refine wp_region_mv (by kernel_rfl) (by kernel_rfl) ?_
            repeat (go_big_quiet_step (first | (with_reducible exact calls_mv (CT2.out _)) | (with_reducible exact calls_mv (CT3.out _)) | (with_reducible exact calls_mv (CL1.out _)) | (with_reducible exact calls_mv (CL2.out _))))
            refine wpQuiet_nil ?_
            intro _ hw'
            obtain ⟨q, hw''⟩ := hw'
            subst hw''
            clear n0 n1 n2 n3 n4 n5
            replace X1 := hid (X1.out.below (below_mv _ q))
            replace X2 := hid (X2.out.below (below_mv _ q))
            replace X3 := hid (X3.out.below (below_mv _ q))
            replace S := hid (then_ S.out (below_mv _ q) S.out.size)
            generalize mv _ q = w9 at X1 X2 X3 S ⊢
            have x0 := X1.out.c0
            have x1 := X1.out.c1
            have x2 := X2.out.c0
            have x3 := X2.out.c1
            have x4 := X3.out.c0
            have x5 := X3.out.c1
            go_wp2_with fail
            refine (CB1.out _).mono ?_
            rintro e w9 ⟨rfl, hb⟩
            replace X1 := hid (X1.out.below hb)
            replace X2 := hid (X2.out.below hb)
            replace X3 := hid (X3.out.below hb)
            replace S := hid (then_ S.out hb S.out.size)
            clear hb x0 x1 x2 x3 x4 x5
            have x0 := X1.out.c0
            have x1 := X1.out.c1
            have x2 := X2.out.c0
            have x3 := X2.out.c1
            have x4 := X3.out.c0
            have x5 := X3.out.c1
            go_wp2_with fail
            have n0 := fun q => (X1.out.mv q).c0
            have n1 := fun q => (X1.out.mv q).c1
            have n2 := fun q => (X2.out.mv q).c0
            have n3 := fun q => (X2.out.mv q).c1
            have n4 := fun q => (X3.out.mv q).c0
            have n5 := fun q => (X3.out.mv q).c1
            clear x0 x1 x2 x3 x4 x5
            refine wp_region_mv (by kernel_rfl) (by kernel_rfl) ?_
            repeat (go_big_quiet_step (first | (with_reducible exact calls_mv (CN.out _)) | (with_reducible exact calls_mv (CH1.out _)) | (with_reducible exact calls_mv (CH3.out _)) | (with_reducible exact calls_mv (CT4.out _))))
            refine wpQuiet_nil ?_
            intro _ hw'
            obtain ⟨q, hw''⟩ := hw'
            subst hw''
            clear n0 n1 n2 n3 n4 n5
            replace X1 := hid (X1.out.below (below_mv _ q))
            replace X2 := hid (X2.out.below (below_mv _ q))
            replace X3 := hid (X3.out.below (below_mv _ q))
            replace S := hid (then_ S.out (below_mv _ q) S.out.size)
            generalize mv _ q = w9 at X1 X2 X3 S ⊢
            have x0 := X1.out.c0
            have x1 := X1.out.c1
            have x2 := X2.out.c0
            have x3 := X2.out.c1
            have x4 := X3.out.c0
            have x5 := X3.out.c1
            go_wp2
            go_ret
            exact ⟨rfl, S.out⟩
      · rcases HT with rfl | ⟨ht0, ht1⟩
        · rcases HS with ⟨rfl, rfl, hs⟩ | ⟨rfl, rfl, hs⟩ | ⟨rfl, rfl, _, rfl⟩
          all_goals
            (try replace hs := hs rfl)
            rcases HB with rfl | ⟨rfl, _, rfl, rfl⟩
            · go_wp2_with fail
              have n0 := fun q => (X1.out.mv q).c0
              have n1 := fun q => (X1.out.mv q).c1
              have n2 := fun q => (X2.out.mv q).c0
              have n3 := fun q => (X2.out.mv q).c1
              have n4 := fun q => (X3.out.mv q).c0
              have n5 := fun q => (X3.out.mv q).c1
              clear x0 x1 x2 x3 x4 x5
              refine wp_region_mv (by kernel_rfl) (by kernel_rfl) ?_
              repeat (go_big_quiet_step (first | (with_reducible exact calls_mv (CT2.out _)) | (with_reducible exact calls_mv (CT3.out _)) | (with_reducible exact calls_mv (CL1.out _)) | (with_reducible exact calls_mv (CL2.out _))))
              refine wpQuiet_nil ?_
              intro _ hw'
              obtain ⟨q, hw''⟩ := hw'
              subst hw''
              clear n0 n1 n2 n3 n4 n5
              replace X1 := hid (X1.out.below (below_mv _ q))
              replace X2 := hid (X2.out.below (below_mv _ q))
              replace X3 := hid (X3.out.below (below_mv _ q))
              replace S := hid (then_ S.out (below_mv _ q) S.out.size)
              generalize mv _ q = w9 at X1 X2 X3 S ⊢
              have x0 := X1.out.c0
              have x1 := X1.out.c1
              have x2 := X2.out.c0
              have x3 := X2.out.c1
              have x4 := X3.out.c0
              have x5 := X3.out.c1
              go_wp2_with fail
              refine (CB1.out _).mono ?_
              rintro e w9 ⟨rfl, hb⟩
              replace X1 := hid (X1.out.below hb)
              replace X2 := hid (X2.out.below hb)
              replace X3 := hid (X3.out.below hb)
              replace S := hid (then_ S.out hb S.out.size)
              clear hb x0 x1 x2 x3 x4 x5
              have x0 := X1.out.c0
              have x1 := X1.out.c1
              have x2 := X2.out.c0
              have x3 := X2.out.c1
              have x4 := X3.out.c0
              have x5 := X3.out.c1
              go_wp2_with fail
              refine (CF1.out _).mono ?_
              rintro e w9 ⟨rfl, hb⟩
              replace X1 := hid (X1.out.below hb)
              replace X2 := hid (X2.out.below hb)
              replace X3 := hid (X3.out.below hb)
              replace S := hid (then_ S.out hb S.out.size)
              clear hb x0 x1 x2 x3 x4 x5
              have x0 := X1.out.c0
              have x1 := X1.out.c1
              have x2 := X2.out.c0
              have x3 := X2.out.c1
              have x4 := X3.out.c0
              have x5 := X3.out.c1
              go_wp2_with fail
              refine (CF2.out _).mono ?_
              rintro e w9 ⟨rfl, hb⟩
              replace X1 := hid (X1.out.below hb)
              replace X2 := hid (X2.out.below hb)
              replace X3 := hid (X3.out.below hb)
              replace S := hid (then_ S.out hb S.out.size)
              clear hb x0 x1 x2 x3 x4 x5
              have x0 := X1.out.c0
              have x1 := X1.out.c1
              have x2 := X2.out.c0
              have x3 := X2.out.c1
              have x4 := X3.out.c0
              have x5 := X3.out.c1
              go_wp2_with fail
              have n0 := fun q => (X1.out.mv q).c0
              have n1 := fun q => (X1.out.mv q).c1
              have n2 := fun q => (X2.out.mv q).c0
              have n3 := fun q => (X2.out.mv q).c1
              have n4 := fun q => (X3.out.mv q).c0
              have n5 := fun q => (X3.out.mv q).c1
              clear x0 x1 x2 x3 x4 x5
              refine wp_region_mv (by kernel_rfl) (by kernel_rfl) ?_
              repeat (go_big_quiet_step (first | (with_reducible exact calls_mv (CH1.out _)) | (with_reducible exact calls_mv (CH2.out _))))
              refine wpQuiet_nil ?_
              intro _ hw'
              obtain ⟨q, hw''⟩ := hw'
              subst hw''
              clear n0 n1 n2 n3 n4 n5
              replace X1 := hid (X1.out.below (below_mv _ q))
              replace X2 := hid (X2.out.below (below_mv _ q))
              replace X3 := hid (X3.out.below (below_mv _ q))
              replace S := hid (then_ S.out (below_mv _ q) S.out.size)
              generalize mv _ q = w9 at X1 X2 X3 S ⊢
              have x0 := X1.out.c0
              have x1 := X1.out.c1
              have x2 := X2.out.c0
              have x3 := X2.out.c1
              have x4 := X3.out.c0
              have x5 := X3.out.c1
              go_wp2_with fail
              have n0 := fun q => (X1.out.mv q).c0
              have n1 := fun q => (X1.out.mv q).c1
              have n2 := fun q => (X2.out.mv q).c0
              have n3 := fun q => (X2.out.mv q).c1
              have n4 := fun q => (X3.out.mv q).c0
              have n5 := fun q => (X3.out.mv q).c1
              clear x0 x1 x2 x3 x4 x5
              refine wp_region_mv (by kernel_rfl) (by kernel_rfl) ?_
              repeat (go_big_quiet_step (first | (with_reducible exact calls_mv (CN.out _)) | (with_reducible exact calls_mv (CH1.out _)) | (with_reducible exact calls_mv (CH3.out _)) | (with_reducible exact calls_mv (CT4.out _))))
              refine wpQuiet_nil ?_
              intro _ hw'
              obtain ⟨q, hw''⟩ := hw'
              subst hw''
              clear n0 n1 n2 n3 n4 n5
              replace X1 := hid (X1.out.below (below_mv _ q))
              replace X2 := hid (X2.out.below (below_mv _ q))
              replace X3 := hid (X3.out.below (below_mv _ q))
              replace S := hid (then_ S.out (below_mv _ q) S.out.size)
              generalize mv _ q = w9 at X1 X2 X3 S ⊢
              have x0 := X1.out.c0
              have x1 := X1.out.c1
              have x2 := X2.out.c0
              have x3 := X2.out.c1
              have x4 := X3.out.c0
              have x5 := X3.out.c1
              go_wp2
              go_ret
              exact ⟨rfl, S.out⟩
            · go_wp2_with fail
              have n0 := fun q => (X1.out.mv q).c0
              have n1 := fun q => (X1.out.mv q).c1
              have n2 := fun q => (X2.out.mv q).c0
              have n3 := fun q => (X2.out.mv q).c1
              have n4 := fun q => (X3.out.mv q).c0
              have n5 := fun q => (X3.out.mv q).c1
              clear x0 x1 x2 x3 x4 x5
              refine wp_region_mv (by kernel_rfl) (by kernel_rfl) ?_
              repeat (go_big_quiet_step (first | (with_reducible exact calls_mv (CT2.out _)) | (with_reducible exact calls_mv (CT3.out _)) | (with_reducible exact calls_mv (CL1.out _)) | (with_reducible exact calls_mv (CL2.out _))))
              refine wpQuiet_nil ?_
              intro _ hw'
              obtain ⟨q, hw''⟩ := hw'
              subst hw''
              clear n0 n1 n2 n3 n4 n5
              replace X1 := hid (X1.out.below (below_mv _ q))
              replace X2 := hid (X2.out.below (below_mv _ q))
              replace X3 := hid (X3.out.below (below_mv _ q))
              replace S := hid (then_ S.out (below_mv _ q) S.out.size)
              generalize mv _ q = w9 at X1 X2 X3 S ⊢
              have x0 := X1.out.c0
              have x1 := X1.out.c1
              have x2 := X2.out.c0
              have x3 := X2.out.c1
              have x4 := X3.out.c0
              have x5 := X3.out.c1
              go_wp2_with fail
              refine (CB1.out _).mono ?_
              rintro e w9 ⟨rfl, hb⟩
              replace X1 := hid (X1.out.below hb)
              replace X2 := hid (X2.out.below hb)
              replace X3 := hid (X3.out.below hb)
              replace S := hid (then_ S.out hb S.out.size)
              clear hb x0 x1 x2 x3 x4 x5
              have x0 := X1.out.c0
              have x1 := X1.out.c1
              have x2 := X2.out.c0
              have x3 := X2.out.c1
              have x4 := X3.out.c0
              have x5 := X3.out.c1
              go_wp2_with fail
              refine (CB2.out _).mono ?_
              rintro e w9 ⟨rfl, hb⟩
              replace X1 := hid (X1.out.below hb)
              replace X2 := hid (X2.out.below hb)
              replace X3 := hid (X3.out.below hb)
              replace S := hid (then_ S.out hb S.out.size)
              clear hb x0 x1 x2 x3 x4 x5
              have x0 := X1.out.c0
              have x1 := X1.out.c1
              have x2 := X2.out.c0
              have x3 := X2.out.c1
              have x4 := X3.out.c0
              have x5 := X3.out.c1
              go_wp2_with fail
              refine (CB3.out _).mono ?_
              rintro e w9 ⟨rfl, hb⟩
              replace X1 := hid (X1.out.below hb)
              replace X2 := hid (X2.out.below hb)
              replace X3 := hid (X3.out.below hb)
              replace S := hid (then_ S.out hb S.out.size)
              clear hb x0 x1 x2 x3 x4 x5
              have x0 := X1.out.c0
              have x1 := X1.out.c1
              have x2 := X2.out.c0
              have x3 := X2.out.c1
              have x4 := X3.out.c0
              have x5 := X3.out.c1
              go_wp2_with fail
              refine (CF1.out _).mono ?_
              rintro e w9 ⟨rfl, hb⟩
              replace X1 := hid (X1.out.below hb)
              replace X2 := hid (X2.out.below hb)
              replace X3 := hid (X3.out.below hb)
              replace S := hid (then_ S.out hb S.out.size)
              clear hb x0 x1 x2 x3 x4 x5
              have x0 := X1.out.c0
              have x1 := X1.out.c1
              have x2 := X2.out.c0
              have x3 := X2.out.c1
              have x4 := X3.out.c0
              have x5 := X3.out.c1
              go_wp2_with fail
              refine (CF2.out _).mono ?_
              rintro e w9 ⟨rfl, hb⟩
              replace X1 := hid (X1.out.below hb)
              replace X2 := hid (X2.out.below hb)
              replace X3 := hid (X3.out.below hb)
              replace S := hid (then_ S.out hb S.out.size)
              clear hb x0 x1 x2 x3 x4 x5
              have x0 := X1.out.c0
              have x1 := X1.out.c1
              have x2 := X2.out.c0
              have x3 := X2.out.c1
              have x4 := X3.out.c0
              have x5 := X3.out.c1
              go_wp2_with fail
              have n0 := fun q => (X1.out.mv q).c0
              have n1 := fun q => (X1.out.mv q).c1
              have n2 := fun q => (X2.out.mv q).c0
              have n3 := fun q => (X2.out.mv q).c1
              have n4 := fun q => (X3.out.mv q).c0
              have n5 := fun q => (X3.out.mv q).c1
              clear x0 x1 x2 x3 x4 x5
              refine wp_region_mv (by kernel_rfl) (by kernel_rfl) ?_
              repeat (go_big_quiet_step (first | (with_reducible exact calls_mv (CH1.out _)) | (with_reducible exact calls_mv (CH2.out _))))
              refine wpQuiet_nil ?_
              intro _ hw'
              obtain ⟨q, hw''⟩ := hw'
              subst hw''
              clear n0 n1 n2 n3 n4 n5
              replace X1 := hid (X1.out.below (below_mv _ q))
              replace X2 := hid (X2.out.below (below_mv _ q))
              replace X3 := hid (X3.out.below (below_mv _ q))
              replace S := hid (then_ S.out (below_mv _ q) S.out.size)
              generalize mv _ q = w9 at X1 X2 X3 S ⊢
              have x0 := X1.out.c0
              have x1 := X1.out.c1
              have x2 := X2.out.c0
              have x3 := X2.out.c1
              have x4 := X3.out.c0
              have x5 := X3.out.c1
              go_wp2_with fail
              have n0 := fun q => (X1.out.mv q).c0
              have n1 := fun q => (X1.out.mv q).c1
              have n2 := fun q => (X2.out.mv q).c0
              have n3 := fun q => (X2.out.mv q).c1
              have n4 := fun q => (X3.out.mv q).c0
              have n5 := fun q => (X3.out.mv q).c1
              clear x0 x1 x2 x3 x4 x5
              refine wp_region_mv (by kernel_rfl) (by kernel_rfl) ?_
              repeat (go_big_quiet_step (first | (with_reducible exact calls_mv (CN.out _)) | (with_reducible exact calls_mv (CH1.out _)) | (with_reducible exact calls_mv (CH3.out _)) | (with_reducible exact calls_mv (CT4.out _))))
              refine wpQuiet_nil ?_
              intro _ hw'
              obtain ⟨q, hw''⟩ := hw'
              subst hw''
              clear n0 n1 n2 n3 n4 n5
              replace X1 := hid (X1.out.below (below_mv _ q))
              replace X2 := hid (X2.out.below (below_mv _ q))
              replace X3 := hid (X3.out.below (below_mv _ q))
              replace S := hid (then_ S.out (below_mv _ q) S.out.size)
              generalize mv _ q = w9 at X1 X2 X3 S ⊢
              have x0 := X1.out.c0
              have x1 := X1.out.c1
              have x2 := X2.out.c0
              have x3 := X2.out.c1
              have x4 := X3.out.c0
              have x5 := X3.out.c1
              go_wp2
              go_ret
              exact ⟨rfl, S.out⟩
        · rcases HS with ⟨rfl, rfl, hs⟩ | ⟨rfl, rfl, hs⟩ | ⟨rfl, rfl, hs, _⟩
          rotate_left 2
          · rw [hs] at ht0; simp at ht0
          all_goals
            clear hs
            rcases HB with rfl | ⟨rfl, hz, rfl, rfl⟩
            rotate_left
            · rw [hz] at ht0; simp at ht0
            · go_wp2_with fail
              have n0 := fun q => (X1.out.mv q).c0
              have n1 := fun q => (X1.out.mv q).c1
              have n2 := fun q => (X2.out.mv q).c0
              have n3 := fun q => (X2.out.mv q).c1
              have n4 := fun q => (X3.out.mv q).c0
              have n5 := fun q => (X3.out.mv q).c1
              clear x0 x1 x2 x3 x4 x5
              refine wp_region_mv (by kernel_rfl) (by kernel_rfl) ?_
              repeat (go_big_quiet_step (first | (with_reducible exact calls_mv (CT2.out _)) | (with_reducible exact calls_mv (CT3.out _)) | (with_reducible exact calls_mv (CL1.out _)) | (with_reducible exact calls_mv (CL2.out _))))
              refine wpQuiet_nil ?_
              intro _ hw'
              obtain ⟨q, hw''⟩ := hw'
              subst hw''
              clear n0 n1 n2 n3 n4 n5
              replace X1 := hid (X1.out.below (below_mv _ q))
              replace X2 := hid (X2.out.below (below_mv _ q))
              replace X3 := hid (X3.out.below (below_mv _ q))
              replace S := hid (then_ S.out (below_mv _ q) S.out.size)
              generalize mv _ q = w9 at X1 X2 X3 S ⊢
              have x0 := X1.out.c0
              have x1 := X1.out.c1
              have x2 := X2.out.c0
              have x3 := X2.out.c1
              have x4 := X3.out.c0
              have x5 := X3.out.c1
              go_wp2_with fail
              refine (CB1.out _).mono ?_
              rintro e w9 ⟨rfl, hb⟩
              replace X1 := hid (X1.out.below hb)
              replace X2 := hid (X2.out.below hb)
              replace X3 := hid (X3.out.below hb)
              replace S := hid (then_ S.out hb S.out.size)
              clear hb x0 x1 x2 x3 x4 x5
              have x0 := X1.out.c0
              have x1 := X1.out.c1
              have x2 := X2.out.c0
              have x3 := X2.out.c1
              have x4 := X3.out.c0
              have x5 := X3.out.c1
              go_wp2_with fail
              refine (CF1.out _).mono ?_
              rintro e w9 ⟨rfl, hb⟩
              replace X1 := hid (X1.out.below hb)
              replace X2 := hid (X2.out.below hb)
              replace X3 := hid (X3.out.below hb)
              replace S := hid (then_ S.out hb S.out.size)
              clear hb x0 x1 x2 x3 x4 x5
              have x0 := X1.out.c0
              have x1 := X1.out.c1
              have x2 := X2.out.c0
              have x3 := X2.out.c1
              have x4 := X3.out.c0
              have x5 := X3.out.c1
              go_wp2_with fail
              refine (CF2.out _).mono ?_
              rintro e w9 ⟨rfl, hb⟩
              replace X1 := hid (X1.out.below hb)
              replace X2 := hid (X2.out.below hb)
              replace X3 := hid (X3.out.below hb)
              replace S := hid (then_ S.out hb S.out.size)
              clear hb x0 x1 x2 x3 x4 x5
              have x0 := X1.out.c0
              have x1 := X1.out.c1
              have x2 := X2.out.c0
              have x3 := X2.out.c1
              have x4 := X3.out.c0
              have x5 := X3.out.c1
              go_wp2_with fail
              have n0 := fun q => (X1.out.mv q).c0
              have n1 := fun q => (X1.out.mv q).c1
              have n2 := fun q => (X2.out.mv q).c0
              have n3 := fun q => (X2.out.mv q).c1
              have n4 := fun q => (X3.out.mv q).c0
              have n5 := fun q => (X3.out.mv q).c1
              clear x0 x1 x2 x3 x4 x5
              refine wp_region_mv (by kernel_rfl) (by kernel_rfl) ?_
              repeat (go_big_quiet_step (first | (with_reducible exact calls_mv (CH1.out _)) | (with_reducible exact calls_mv (CH2.out _))))
              refine wpQuiet_nil ?_
              intro _ hw'
              obtain ⟨q, hw''⟩ := hw'
              subst hw''
              clear n0 n1 n2 n3 n4 n5
              replace X1 := hid (X1.out.below (below_mv _ q))
              replace X2 := hid (X2.out.below (below_mv _ q))
              replace X3 := hid (X3.out.below (below_mv _ q))
              replace S := hid (then_ S.out (below_mv _ q) S.out.size)
              generalize mv _ q = w9 at X1 X2 X3 S ⊢
              have x0 := X1.out.c0
              have x1 := X1.out.c1
              have x2 := X2.out.c0
              have x3 := X2.out.c1
              have x4 := X3.out.c0
              have x5 := X3.out.c1
              go_wp2_with fail
              have n0 := fun q => (X1.out.mv q).c0
              have n1 := fun q => (X1.out.mv q).c1
              have n2 := fun q => (X2.out.mv q).c0
              have n3 := fun q => (X2.out.mv q).c1
              have n4 := fun q => (X3.out.mv q).c0
              have n5 := fun q => (X3.out.mv q).c1
              clear x0 x1 x2 x3 x4 x5
              refine wp_region_mv (by kernel_rfl) (by kernel_rfl) ?_
              repeat (go_big_quiet_step (first | (with_reducible exact calls_mv (CN.out _)) | (with_reducible exact calls_mv (CH1.out _)) | (with_reducible exact calls_mv (CH3.out _)) | (with_reducible exact calls_mv (CT4.out _))))
              refine wpQuiet_nil ?_
              intro _ hw'
              obtain ⟨q, hw''⟩ := hw'
              subst hw''
              clear n0 n1 n2 n3 n4 n5
              replace X1 := hid (X1.out.below (below_mv _ q))
              replace X2 := hid (X2.out.below (below_mv _ q))
              replace X3 := hid (X3.out.below (below_mv _ q))
              replace S := hid (then_ S.out (below_mv _ q) S.out.size)
              generalize mv _ q = w9 at X1 X2 X3 S ⊢
              have x0 := X1.out.c0
              have x1 := X1.out.c1
              have x2 := X2.out.c0
              have x3 := X2.out.c1
              have x4 := X3.out.c0
              have x5 := X3.out.c1
              go_wp2
              go_ret
              exact ⟨rfl, S.out⟩
end Go.Proofs.Ytcfopbkahlkolaa

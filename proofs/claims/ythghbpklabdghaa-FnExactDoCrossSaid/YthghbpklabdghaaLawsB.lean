/- The walks of the laws LeadOk, IsOnLead and DoCross: each returns true. No condition. -/
import Derived.Test.YthghbpklabdghaaCrossS
import Derived.Test.YthghbpklabdghaaConv
import Derived.Test.YthghbpklabdghaaHeldw
namespace Go.Proofs.Ythghbpklabdghaa
open Go.ChangeShapes Go.WideShapes Go.ChangeAt Go.RowKit
set_option maxHeartbeats 2000000
set_option linter.unusedSimpArgs false
set_option linter.unusedVariables false
theorem FnExactLeadOk_walk (w : World) (v : Value) (ns : List (Int × Int)) (hv : PairsAt w v ns) (x0 y0 : Int) : Calls Try.prog 4 #[v, .agg #[.int .i64 x0, .int .i64 y0]] w fun e w' => e = .returned (.bool true) ∧ Below w.heap.size w w' := by
  have s0 : Below w.heap.size w (w.alloc (.cells #[.int .i64 x0, .int .i64 y0] 32)) := ((Below.refl w.heap.size w).alloc (Nat.le_refl _) _)
  have b0 : Box2 (w.alloc (.cells #[.int .i64 x0, .int .i64 y0] 32)) (w.heap.size) x0 y0 := (Box2.new _ _ _ _ _ rfl)
  have hv0 : PairsAt (w.alloc (.cells #[.int .i64 x0, .int .i64 y0] 32)) v ns := hv.below s0
  have S0 := hid s0
  have z0 := s0.size
  have HV := hid hv0
  have B0 := hid b0
  clear s0 hv hv0 b0
  obtain ⟨A, c, rfl, hc, hm, _⟩ := id HV.out
  by_cases hn : 1048576 - (ns.length : Int) < 0
  · have e : szF 1048576 ns.length = -1 := by unfold szF; rw [if_pos hn]
    go_enter Try.func4, Try.ntmps4
    go_wp2_with fail
    refine (szNodeS_any _ ns _ _ HV.out (by omega) (by omega)).mono ?_
    rintro e' w' ⟨rfl, rfl⟩
    rw [e]
    go_wp2
    go_ret
    exact ⟨rfl, S0.out⟩
  · have e : szF 1048576 ns.length = 1048576 - (ns.length : Int) := by unfold szF; rw [if_neg hn]
    have hn' : ns.length ≤ 1048576 := by omega
    have hge : ¬ 1048576 - (ns.length : Int) < 0 := by omega
    go_enter Try.func4, Try.ntmps4
    go_wp2_with fail
    refine (szNodeS_any _ ns _ _ HV.out (by omega) (by omega)).mono ?_
    rintro e' w' ⟨rfl, rfl⟩
    rw [e]
    clear e
    have c00 := B0.out.c0
    have c01 := B0.out.c1
    go_wp2_with fail
    refine wh_start (S := (fun w' => w'.cell? ⟨w.heap.size, 0, none⟩ = some (.int .i64 x0) ∧ w'.cell? ⟨w.heap.size, 1, none⟩ = some (.int .i64 y0))) (by kernel_rfl) ⟨c00, c01⟩ ?_
    refine wh_take (i := 0) (v := ?_) rfl (by kernel_rfl) (by kernel_rfl) (by kernel_rfl) (fun _ _ _ h => h) (by kernel_rfl) ?_ ?_
    rotate_left
    (focus (intro w hSw; (try dsimp only at hSw); go_simp; try with_reducible rfl))
    simp only [Act.put, List.setIfInBounds_toArray, List.set_cons_zero, List.set_cons_succ, List.getElem_toArray, List.getElem_cons_succ, List.getElem_cons_zero, Nat.reduceAdd]
    refine wh_take (i := 2) (v := ?_) rfl (by kernel_rfl) (by kernel_rfl) (by kernel_rfl) (fun _ _ _ h => h) (by kernel_rfl) ?_ ?_
    rotate_left
    (focus (intro w hSw; (try dsimp only at hSw); go_simp; try with_reducible rfl))
    simp only [Act.put, List.setIfInBounds_toArray, List.set_cons_zero, List.set_cons_succ, List.getElem_toArray, List.getElem_cons_succ, List.getElem_cons_zero, Nat.reduceAdd]
    refine wh_step (i := 1) rfl (by kernel_rfl) (fun K hK => ?_)
    go_simp
    refine (toNodeS_any _ ns _ (by exact PairsAt.drew HV.out) hn').mono ?_
    rintro e' u1 ⟨p1, rfl, ho, hb⟩
    have hb := then_ ((Below.refl _ _).drew) hb (Nat.le_refl _)
    have B0 := hid (B0.out.below hb)
    have S0 := hid (then_ S0.out hb z0)
    have z0 := S0.out.size
    have HV := hid (HV.out.below hb)
    have c00 := B0.out.c0
    have c01 := B0.out.c1
    have O1 := hid ho.pairs
    clear hb ho
    (try dsimp only)
    refine hK.out _ _ ⟨c00, c01⟩ ?_
    clear hK K
    (try simp only [Act.put, List.setIfInBounds_toArray, List.set_cons_zero, List.set_cons_succ, List.getElem_toArray, List.getElem_cons_succ, List.getElem_cons_zero, Nat.reduceAdd])
    refine wh_step (i := 3) rfl (by kernel_rfl) (fun K hK => ?_)
    go_simp
    refine (toLead_any _ _ _).mono ?_
    rintro e' u2 ⟨rfl, hb⟩
    have B0 := hid (B0.out.below hb)
    have S0 := hid (then_ S0.out hb z0)
    have z0 := S0.out.size
    have HV := hid (HV.out.below hb)
    have c00 := B0.out.c0
    have c01 := B0.out.c1
    have O1 := hid (O1.out.below hb)
    clear hb
    (try dsimp only)
    refine hK.out _ _ ⟨c00, c01⟩ ?_
    clear hK K
    (try simp only [Act.put, List.setIfInBounds_toArray, List.set_cons_zero, List.set_cons_succ, List.getElem_toArray, List.getElem_cons_succ, List.getElem_cons_zero, Nat.reduceAdd])
    refine wh_step (i := 4) rfl (by kernel_rfl) (fun K hK => ?_)
    go_simp
    refine (sLeadOk_any _ ns _ _ _ O1.out).mono ?_
    rintro e' u3 ⟨rfl, hb⟩
    have B0 := hid (B0.out.below hb)
    have S0 := hid (then_ S0.out hb z0)
    have z0 := S0.out.size
    have HV := hid (HV.out.below hb)
    have c00 := B0.out.c0
    have c01 := B0.out.c1
    clear hb O1
    (try dsimp only)
    refine hK.out _ _ ⟨c00, c01⟩ ?_
    clear hK K
    (try simp only [Act.put, List.setIfInBounds_toArray, List.set_cons_zero, List.set_cons_succ, List.getElem_toArray, List.getElem_cons_succ, List.getElem_cons_zero, Nat.reduceAdd])
    refine wh_take (i := 5) (v := ?_) rfl (by kernel_rfl) (by kernel_rfl) (by kernel_rfl) (fun _ _ _ h => h) (by kernel_rfl) ?_ ?_
    rotate_left
    (focus (intro w hSw; (try dsimp only at hSw); go_simp; try with_reducible rfl))
    simp only [Act.put, List.setIfInBounds_toArray, List.set_cons_zero, List.set_cons_succ, List.getElem_toArray, List.getElem_cons_succ, List.getElem_cons_zero, Nat.reduceAdd]
    refine wh_done (by kernel_rfl) ?_
    go_wp2_with fail
    refine (toNodeS_any _ ns _ HV.out hn').mono ?_
    rintro e' u4 ⟨p2, rfl, ho, hb⟩
    have B0 := hid (B0.out.below hb)
    have S0 := hid (then_ S0.out hb z0)
    have z0 := S0.out.size
    have HV := hid (HV.out.below hb)
    have c00 := B0.out.c0
    have c01 := B0.out.c1
    have O2 := hid ho.pairs
    clear hb ho
    go_wp2_with fail
    refine (toLead_any _ _ _).mono ?_
    rintro e' u5 ⟨rfl, hb⟩
    have B0 := hid (B0.out.below hb)
    have S0 := hid (then_ S0.out hb z0)
    have z0 := S0.out.size
    have HV := hid (HV.out.below hb)
    have c00 := B0.out.c0
    have c01 := B0.out.c1
    have O2 := hid (O2.out.below hb)
    clear hb
    go_wp2_with fail
    refine (iLeadOk_any _ ns _ _ _ O2.out).mono ?_
    rintro e' u6 ⟨rfl, hb⟩
    have B0 := hid (B0.out.below hb)
    have S0 := hid (then_ S0.out hb z0)
    have z0 := S0.out.size
    have HV := hid (HV.out.below hb)
    have c00 := B0.out.c0
    have c01 := B0.out.c1
    have O2 := hid (O2.out.below hb)
    clear hb
    go_wp2_with fail
    refine (toNodeS_any _ ns _ HV.out hn').mono ?_
    rintro e' u7 ⟨p3, rfl, ho, hb⟩
    have B0 := hid (B0.out.below hb)
    have S0 := hid (then_ S0.out hb z0)
    have z0 := S0.out.size
    have HV := hid (HV.out.below hb)
    have c00 := B0.out.c0
    have c01 := B0.out.c1
    have O3 := hid ho.pairs
    have O2 := hid (O2.out.below hb)
    clear hb ho
    go_wp2_with fail
    refine (eqNodeS_same _ _ ns _ O2.out O3.out).mono ?_
    rintro e' u8 ⟨rfl, hb⟩
    have B0 := hid (B0.out.below hb)
    have S0 := hid (then_ S0.out hb z0)
    have z0 := S0.out.size
    have HV := hid (HV.out.below hb)
    have c00 := B0.out.c0
    have c01 := B0.out.c1
    clear hb
    go_wp2
    go_ret
    exact ⟨rfl, S0.out⟩
theorem FnExactIsOnLead_walk (w : World) (v : Value) (ns : List (Int × Int)) (hv : PairsAt w v ns) (x0 y0 x1 y1 : Int) : Calls Try.prog 5 #[v, .agg #[.int .i64 x0, .int .i64 y0], .agg #[.int .i64 x1, .int .i64 y1]] w fun e w' => e = .returned (.bool true) ∧ Below w.heap.size w w' := by
  have s0 : Below w.heap.size w ((w.alloc (.cells #[.int .i64 x0, .int .i64 y0] 32)).alloc (.cells #[.int .i64 x1, .int .i64 y1] 41)) := (((Below.refl w.heap.size w).alloc (Nat.le_refl _) _).alloc (by simp) _)
  have b0 : Box2 ((w.alloc (.cells #[.int .i64 x0, .int .i64 y0] 32)).alloc (.cells #[.int .i64 x1, .int .i64 y1] 41)) (w.heap.size) x0 y0 := ((Box2.new _ _ _ _ _ rfl).alloc _)
  have b1 : Box2 ((w.alloc (.cells #[.int .i64 x0, .int .i64 y0] 32)).alloc (.cells #[.int .i64 x1, .int .i64 y1] 41)) (w.heap.size + 1) x1 y1 := (Box2.new _ _ _ _ _ (by simp))
  have hv0 : PairsAt ((w.alloc (.cells #[.int .i64 x0, .int .i64 y0] 32)).alloc (.cells #[.int .i64 x1, .int .i64 y1] 41)) v ns := hv.below s0
  have S0 := hid s0
  have z0 := s0.size
  have HV := hid hv0
  have B0 := hid b0
  have B1 := hid b1
  clear s0 hv hv0 b0 b1
  obtain ⟨A, c, rfl, hc, hm, _⟩ := id HV.out
  by_cases hn : 1048576 - (ns.length : Int) < 0
  · have e : szF 1048576 ns.length = -1 := by unfold szF; rw [if_pos hn]
    go_enter Try.func5, Try.ntmps5
    go_wp2_with fail
    refine (szNodeS_any _ ns _ _ HV.out (by omega) (by omega)).mono ?_
    rintro e' w' ⟨rfl, rfl⟩
    rw [e]
    go_wp2
    go_ret
    exact ⟨rfl, S0.out⟩
  · have e : szF 1048576 ns.length = 1048576 - (ns.length : Int) := by unfold szF; rw [if_neg hn]
    have hn' : ns.length ≤ 1048576 := by omega
    have hge : ¬ 1048576 - (ns.length : Int) < 0 := by omega
    go_enter Try.func5, Try.ntmps5
    go_wp2_with fail
    refine (szNodeS_any _ ns _ _ HV.out (by omega) (by omega)).mono ?_
    rintro e' w' ⟨rfl, rfl⟩
    rw [e]
    clear e
    have c00 := B0.out.c0
    have c01 := B0.out.c1
    have c10 := B1.out.c0
    have c11 := B1.out.c1
    go_wp2_with fail
    refine wh_start (S := (fun w' => w'.cell? ⟨w.heap.size, 0, none⟩ = some (.int .i64 x0) ∧ w'.cell? ⟨w.heap.size, 1, none⟩ = some (.int .i64 y0) ∧ w'.cell? ⟨w.heap.size + 1, 0, none⟩ = some (.int .i64 x1) ∧ w'.cell? ⟨w.heap.size + 1, 1, none⟩ = some (.int .i64 y1))) (by kernel_rfl) ⟨c00, c01, c10, c11⟩ ?_
    refine wh_take (i := 0) (v := ?_) rfl (by kernel_rfl) (by kernel_rfl) (by kernel_rfl) (fun _ _ _ h => h) (by kernel_rfl) ?_ ?_
    rotate_left
    (focus (intro w hSw; (try dsimp only at hSw); go_simp; try with_reducible rfl))
    simp only [Act.put, List.setIfInBounds_toArray, List.set_cons_zero, List.set_cons_succ, List.getElem_toArray, List.getElem_cons_succ, List.getElem_cons_zero, Nat.reduceAdd]
    refine wh_take (i := 2) (v := ?_) rfl (by kernel_rfl) (by kernel_rfl) (by kernel_rfl) (fun _ _ _ h => h) (by kernel_rfl) ?_ ?_
    rotate_left
    (focus (intro w hSw; (try dsimp only at hSw); go_simp; try with_reducible rfl))
    simp only [Act.put, List.setIfInBounds_toArray, List.set_cons_zero, List.set_cons_succ, List.getElem_toArray, List.getElem_cons_succ, List.getElem_cons_zero, Nat.reduceAdd]
    refine wh_take (i := 4) (v := ?_) rfl (by kernel_rfl) (by kernel_rfl) (by kernel_rfl) (fun _ _ _ h => h) (by kernel_rfl) ?_ ?_
    rotate_left
    (focus (intro w hSw; (try dsimp only at hSw); go_simp; try with_reducible rfl))
    simp only [Act.put, List.setIfInBounds_toArray, List.set_cons_zero, List.set_cons_succ, List.getElem_toArray, List.getElem_cons_succ, List.getElem_cons_zero, Nat.reduceAdd]
    refine wh_step (i := 1) rfl (by kernel_rfl) (fun K hK => ?_)
    go_simp
    refine (toNodeS_any _ ns _ (by exact PairsAt.drew HV.out) hn').mono ?_
    rintro e' u1 ⟨p1, rfl, ho, hb⟩
    have hb := then_ ((Below.refl _ _).drew) hb (Nat.le_refl _)
    have B0 := hid (B0.out.below hb)
    have B1 := hid (B1.out.below hb)
    have S0 := hid (then_ S0.out hb z0)
    have z0 := S0.out.size
    have HV := hid (HV.out.below hb)
    have c00 := B0.out.c0
    have c01 := B0.out.c1
    have c10 := B1.out.c0
    have c11 := B1.out.c1
    have O1 := hid ho.pairs
    clear hb ho
    (try dsimp only)
    refine hK.out _ _ ⟨c00, c01, c10, c11⟩ ?_
    clear hK K
    (try simp only [Act.put, List.setIfInBounds_toArray, List.set_cons_zero, List.set_cons_succ, List.getElem_toArray, List.getElem_cons_succ, List.getElem_cons_zero, Nat.reduceAdd])
    refine wh_step (i := 3) rfl (by kernel_rfl) (fun K hK => ?_)
    go_simp
    refine (toLead_any _ _ _).mono ?_
    rintro e' u2 ⟨rfl, hb⟩
    have B0 := hid (B0.out.below hb)
    have B1 := hid (B1.out.below hb)
    have S0 := hid (then_ S0.out hb z0)
    have z0 := S0.out.size
    have HV := hid (HV.out.below hb)
    have c00 := B0.out.c0
    have c01 := B0.out.c1
    have c10 := B1.out.c0
    have c11 := B1.out.c1
    have O1 := hid (O1.out.below hb)
    clear hb
    (try dsimp only)
    refine hK.out _ _ ⟨c00, c01, c10, c11⟩ ?_
    clear hK K
    (try simp only [Act.put, List.setIfInBounds_toArray, List.set_cons_zero, List.set_cons_succ, List.getElem_toArray, List.getElem_cons_succ, List.getElem_cons_zero, Nat.reduceAdd])
    refine wh_step (i := 5) rfl (by kernel_rfl) (fun K hK => ?_)
    go_simp
    refine (toNode_any _ _ _).mono ?_
    rintro e' u2 ⟨rfl, hb⟩
    have B0 := hid (B0.out.below hb)
    have B1 := hid (B1.out.below hb)
    have S0 := hid (then_ S0.out hb z0)
    have z0 := S0.out.size
    have HV := hid (HV.out.below hb)
    have c00 := B0.out.c0
    have c01 := B0.out.c1
    have c10 := B1.out.c0
    have c11 := B1.out.c1
    have O1 := hid (O1.out.below hb)
    clear hb
    (try dsimp only)
    refine hK.out _ _ ⟨c00, c01, c10, c11⟩ ?_
    clear hK K
    (try simp only [Act.put, List.setIfInBounds_toArray, List.set_cons_zero, List.set_cons_succ, List.getElem_toArray, List.getElem_cons_succ, List.getElem_cons_zero, Nat.reduceAdd])
    refine wh_step (i := 6) rfl (by kernel_rfl) (fun K hK => ?_)
    go_simp
    refine (sOn_any _ ns _ _ _ _ _ O1.out).mono ?_
    rintro e' u3 ⟨rfl, hb⟩
    have B0 := hid (B0.out.below hb)
    have B1 := hid (B1.out.below hb)
    have S0 := hid (then_ S0.out hb z0)
    have z0 := S0.out.size
    have HV := hid (HV.out.below hb)
    have c00 := B0.out.c0
    have c01 := B0.out.c1
    have c10 := B1.out.c0
    have c11 := B1.out.c1
    clear hb O1
    (try dsimp only)
    refine hK.out _ _ ⟨c00, c01, c10, c11⟩ ?_
    clear hK K
    (try simp only [Act.put, List.setIfInBounds_toArray, List.set_cons_zero, List.set_cons_succ, List.getElem_toArray, List.getElem_cons_succ, List.getElem_cons_zero, Nat.reduceAdd])
    refine wh_take (i := 7) (v := ?_) rfl (by kernel_rfl) (by kernel_rfl) (by kernel_rfl) (fun _ _ _ h => h) (by kernel_rfl) ?_ ?_
    rotate_left
    (focus (intro w hSw; (try dsimp only at hSw); go_simp; try with_reducible rfl))
    simp only [Act.put, List.setIfInBounds_toArray, List.set_cons_zero, List.set_cons_succ, List.getElem_toArray, List.getElem_cons_succ, List.getElem_cons_zero, Nat.reduceAdd]
    refine wh_done (by kernel_rfl) ?_
    go_wp2_with fail
    refine (toNodeS_any _ ns _ HV.out hn').mono ?_
    rintro e' u4 ⟨p2, rfl, ho, hb⟩
    have B0 := hid (B0.out.below hb)
    have B1 := hid (B1.out.below hb)
    have S0 := hid (then_ S0.out hb z0)
    have z0 := S0.out.size
    have HV := hid (HV.out.below hb)
    have c00 := B0.out.c0
    have c01 := B0.out.c1
    have c10 := B1.out.c0
    have c11 := B1.out.c1
    have O2 := hid ho.pairs
    clear hb ho
    go_wp2_with fail
    refine wh_start (S := (fun w' => w'.cell? ⟨w.heap.size, 0, none⟩ = some (.int .i64 x0) ∧ w'.cell? ⟨w.heap.size, 1, none⟩ = some (.int .i64 y0) ∧ w'.cell? ⟨w.heap.size + 1, 0, none⟩ = some (.int .i64 x1) ∧ w'.cell? ⟨w.heap.size + 1, 1, none⟩ = some (.int .i64 y1))) (by kernel_rfl) ⟨c00, c01, c10, c11⟩ ?_
    refine wh_take (i := 0) (v := ?_) rfl (by kernel_rfl) (by kernel_rfl) (by kernel_rfl) (fun _ _ _ h => h) (by kernel_rfl) ?_ ?_
    rotate_left
    (focus (intro w hSw; (try dsimp only at hSw); go_simp; try with_reducible rfl))
    simp only [Act.put, List.setIfInBounds_toArray, List.set_cons_zero, List.set_cons_succ, List.getElem_toArray, List.getElem_cons_succ, List.getElem_cons_zero, Nat.reduceAdd]
    refine wh_take (i := 1) (v := ?_) rfl (by kernel_rfl) (by kernel_rfl) (by kernel_rfl) (fun _ _ _ h => h) (by kernel_rfl) ?_ ?_
    rotate_left
    (focus (intro w hSw; (try dsimp only at hSw); go_simp; try with_reducible rfl))
    simp only [Act.put, List.setIfInBounds_toArray, List.set_cons_zero, List.set_cons_succ, List.getElem_toArray, List.getElem_cons_succ, List.getElem_cons_zero, Nat.reduceAdd]
    refine wh_take (i := 3) (v := ?_) rfl (by kernel_rfl) (by kernel_rfl) (by kernel_rfl) (fun _ _ _ h => h) (by kernel_rfl) ?_ ?_
    rotate_left
    (focus (intro w hSw; (try dsimp only at hSw); go_simp; try with_reducible rfl))
    simp only [Act.put, List.setIfInBounds_toArray, List.set_cons_zero, List.set_cons_succ, List.getElem_toArray, List.getElem_cons_succ, List.getElem_cons_zero, Nat.reduceAdd]
    refine wh_step (i := 2) rfl (by kernel_rfl) (fun K hK => ?_)
    go_simp
    refine (toLead_any _ _ _).mono ?_
    rintro e' u5 ⟨rfl, hb⟩
    have hb := then_ ((Below.refl _ _).drew) hb (Nat.le_refl _)
    have B0 := hid (B0.out.below hb)
    have B1 := hid (B1.out.below hb)
    have S0 := hid (then_ S0.out hb z0)
    have z0 := S0.out.size
    have HV := hid (HV.out.below hb)
    have c00 := B0.out.c0
    have c01 := B0.out.c1
    have c10 := B1.out.c0
    have c11 := B1.out.c1
    have O2 := hid (O2.out.below hb)
    clear hb
    (try dsimp only)
    refine hK.out _ _ ⟨c00, c01, c10, c11⟩ ?_
    clear hK K
    (try simp only [Act.put, List.setIfInBounds_toArray, List.set_cons_zero, List.set_cons_succ, List.getElem_toArray, List.getElem_cons_succ, List.getElem_cons_zero, Nat.reduceAdd])
    refine wh_step (i := 4) rfl (by kernel_rfl) (fun K hK => ?_)
    go_simp
    refine (toNode_any _ _ _).mono ?_
    rintro e' u5 ⟨rfl, hb⟩
    have B0 := hid (B0.out.below hb)
    have B1 := hid (B1.out.below hb)
    have S0 := hid (then_ S0.out hb z0)
    have z0 := S0.out.size
    have HV := hid (HV.out.below hb)
    have c00 := B0.out.c0
    have c01 := B0.out.c1
    have c10 := B1.out.c0
    have c11 := B1.out.c1
    have O2 := hid (O2.out.below hb)
    clear hb
    (try dsimp only)
    refine hK.out _ _ ⟨c00, c01, c10, c11⟩ ?_
    clear hK K
    (try simp only [Act.put, List.setIfInBounds_toArray, List.set_cons_zero, List.set_cons_succ, List.getElem_toArray, List.getElem_cons_succ, List.getElem_cons_zero, Nat.reduceAdd])
    refine wh_step (i := 5) rfl (by kernel_rfl) (fun K hK => ?_)
    go_simp
    refine (iOn_any _ ns _ _ _ _ _ O2.out).mono ?_
    rintro e' u6 ⟨rfl, hb⟩
    have B0 := hid (B0.out.below hb)
    have B1 := hid (B1.out.below hb)
    have S0 := hid (then_ S0.out hb z0)
    have z0 := S0.out.size
    have HV := hid (HV.out.below hb)
    have c00 := B0.out.c0
    have c01 := B0.out.c1
    have c10 := B1.out.c0
    have c11 := B1.out.c1
    have O2 := hid (O2.out.below hb)
    clear hb
    (try dsimp only)
    refine hK.out _ _ ⟨c00, c01, c10, c11⟩ ?_
    clear hK K
    (try simp only [Act.put, List.setIfInBounds_toArray, List.set_cons_zero, List.set_cons_succ, List.getElem_toArray, List.getElem_cons_succ, List.getElem_cons_zero, Nat.reduceAdd])
    refine wh_take (i := 6) (v := ?_) rfl (by kernel_rfl) (by kernel_rfl) (by kernel_rfl) (fun _ _ _ h => h) (by kernel_rfl) ?_ ?_
    rotate_left
    (focus (intro w hSw; (try dsimp only at hSw); go_simp; try with_reducible rfl))
    simp only [Act.put, List.setIfInBounds_toArray, List.set_cons_zero, List.set_cons_succ, List.getElem_toArray, List.getElem_cons_succ, List.getElem_cons_zero, Nat.reduceAdd]
    refine wh_done (by kernel_rfl) ?_
    go_wp2_with fail
    refine (toNodeS_any _ ns _ HV.out hn').mono ?_
    rintro e' u7 ⟨p3, rfl, ho, hb⟩
    have B0 := hid (B0.out.below hb)
    have B1 := hid (B1.out.below hb)
    have S0 := hid (then_ S0.out hb z0)
    have z0 := S0.out.size
    have HV := hid (HV.out.below hb)
    have c00 := B0.out.c0
    have c01 := B0.out.c1
    have c10 := B1.out.c0
    have c11 := B1.out.c1
    have O3 := hid ho.pairs
    have O2 := hid (O2.out.below hb)
    clear hb ho
    go_wp2_with fail
    refine (eqNodeS_same _ _ ns _ O2.out O3.out).mono ?_
    rintro e' u8 ⟨rfl, hb⟩
    have B0 := hid (B0.out.below hb)
    have B1 := hid (B1.out.below hb)
    have S0 := hid (then_ S0.out hb z0)
    have z0 := S0.out.size
    have HV := hid (HV.out.below hb)
    have c00 := B0.out.c0
    have c01 := B0.out.c1
    have c10 := B1.out.c0
    have c11 := B1.out.c1
    clear hb
    go_wp2
    go_ret
    exact ⟨rfl, S0.out⟩
theorem FnExactDoCross_walk (w : World) (v : Value) (ns : List (Int × Int)) (hv : PairsAt w v ns) (x0 y0 x1 y1 : Int) : Calls Try.prog 6 #[v, .agg #[.int .i64 x0, .int .i64 y0], .agg #[.int .i64 x1, .int .i64 y1]] w fun e w' => e = .returned (.bool true) ∧ Below w.heap.size w w' := by
  have s0 : Below w.heap.size w ((w.alloc (.cells #[.int .i64 x0, .int .i64 y0] 32)).alloc (.cells #[.int .i64 x1, .int .i64 y1] 32)) := (((Below.refl w.heap.size w).alloc (Nat.le_refl _) _).alloc (by simp) _)
  have b0 : Box2 ((w.alloc (.cells #[.int .i64 x0, .int .i64 y0] 32)).alloc (.cells #[.int .i64 x1, .int .i64 y1] 32)) (w.heap.size) x0 y0 := ((Box2.new _ _ _ _ _ rfl).alloc _)
  have b1 : Box2 ((w.alloc (.cells #[.int .i64 x0, .int .i64 y0] 32)).alloc (.cells #[.int .i64 x1, .int .i64 y1] 32)) (w.heap.size + 1) x1 y1 := (Box2.new _ _ _ _ _ (by simp))
  have hv0 : PairsAt ((w.alloc (.cells #[.int .i64 x0, .int .i64 y0] 32)).alloc (.cells #[.int .i64 x1, .int .i64 y1] 32)) v ns := hv.below s0
  have S0 := hid s0
  have z0 := s0.size
  have HV := hid hv0
  have B0 := hid b0
  have B1 := hid b1
  clear s0 hv hv0 b0 b1
  obtain ⟨A, c, rfl, hc, hm, _⟩ := id HV.out
  by_cases hn : 1048576 - (ns.length : Int) < 0
  · have e : szF 1048576 ns.length = -1 := by unfold szF; rw [if_pos hn]
    go_enter Try.func6, Try.ntmps6
    go_wp2_with fail
    refine (szNodeS_any _ ns _ _ HV.out (by omega) (by omega)).mono ?_
    rintro e' w' ⟨rfl, rfl⟩
    rw [e]
    go_wp2
    go_ret
    exact ⟨rfl, S0.out⟩
  · have e : szF 1048576 ns.length = 1048576 - (ns.length : Int) := by unfold szF; rw [if_neg hn]
    have hn' : ns.length ≤ 1048576 := by omega
    have hge : ¬ 1048576 - (ns.length : Int) < 0 := by omega
    go_enter Try.func6, Try.ntmps6
    go_wp2_with fail
    refine (szNodeS_any _ ns _ _ HV.out (by omega) (by omega)).mono ?_
    rintro e' w' ⟨rfl, rfl⟩
    rw [e]
    clear e
    have c00 := B0.out.c0
    have c01 := B0.out.c1
    have c10 := B1.out.c0
    have c11 := B1.out.c1
    go_wp2_with fail
    refine wh_start (S := (fun w' => w'.cell? ⟨w.heap.size, 0, none⟩ = some (.int .i64 x0) ∧ w'.cell? ⟨w.heap.size, 1, none⟩ = some (.int .i64 y0) ∧ w'.cell? ⟨w.heap.size + 1, 0, none⟩ = some (.int .i64 x1) ∧ w'.cell? ⟨w.heap.size + 1, 1, none⟩ = some (.int .i64 y1))) (by kernel_rfl) ⟨c00, c01, c10, c11⟩ ?_
    refine wh_take (i := 0) (v := ?_) rfl (by kernel_rfl) (by kernel_rfl) (by kernel_rfl) (fun _ _ _ h => h) (by kernel_rfl) ?_ ?_
    rotate_left
    (focus (intro w hSw; (try dsimp only at hSw); go_simp; try with_reducible rfl))
    simp only [Act.put, List.setIfInBounds_toArray, List.set_cons_zero, List.set_cons_succ, List.getElem_toArray, List.getElem_cons_succ, List.getElem_cons_zero, Nat.reduceAdd]
    refine wh_take (i := 2) (v := ?_) rfl (by kernel_rfl) (by kernel_rfl) (by kernel_rfl) (fun _ _ _ h => h) (by kernel_rfl) ?_ ?_
    rotate_left
    (focus (intro w hSw; (try dsimp only at hSw); go_simp; try with_reducible rfl))
    simp only [Act.put, List.setIfInBounds_toArray, List.set_cons_zero, List.set_cons_succ, List.getElem_toArray, List.getElem_cons_succ, List.getElem_cons_zero, Nat.reduceAdd]
    refine wh_take (i := 4) (v := ?_) rfl (by kernel_rfl) (by kernel_rfl) (by kernel_rfl) (fun _ _ _ h => h) (by kernel_rfl) ?_ ?_
    rotate_left
    (focus (intro w hSw; (try dsimp only at hSw); go_simp; try with_reducible rfl))
    simp only [Act.put, List.setIfInBounds_toArray, List.set_cons_zero, List.set_cons_succ, List.getElem_toArray, List.getElem_cons_succ, List.getElem_cons_zero, Nat.reduceAdd]
    refine wh_step (i := 1) rfl (by kernel_rfl) (fun K hK => ?_)
    go_simp
    refine (toNodeS_any _ ns _ (by exact PairsAt.drew HV.out) hn').mono ?_
    rintro e' u1 ⟨p1, rfl, ho, hb⟩
    have hb := then_ ((Below.refl _ _).drew) hb (Nat.le_refl _)
    have B0 := hid (B0.out.below hb)
    have B1 := hid (B1.out.below hb)
    have S0 := hid (then_ S0.out hb z0)
    have z0 := S0.out.size
    have HV := hid (HV.out.below hb)
    have c00 := B0.out.c0
    have c01 := B0.out.c1
    have c10 := B1.out.c0
    have c11 := B1.out.c1
    have O1 := hid ho.pairs
    clear hb ho
    (try dsimp only)
    refine hK.out _ _ ⟨c00, c01, c10, c11⟩ ?_
    clear hK K
    (try simp only [Act.put, List.setIfInBounds_toArray, List.set_cons_zero, List.set_cons_succ, List.getElem_toArray, List.getElem_cons_succ, List.getElem_cons_zero, Nat.reduceAdd])
    refine wh_step (i := 3) rfl (by kernel_rfl) (fun K hK => ?_)
    go_simp
    refine (toLead_any _ _ _).mono ?_
    rintro e' u2 ⟨rfl, hb⟩
    have B0 := hid (B0.out.below hb)
    have B1 := hid (B1.out.below hb)
    have S0 := hid (then_ S0.out hb z0)
    have z0 := S0.out.size
    have HV := hid (HV.out.below hb)
    have c00 := B0.out.c0
    have c01 := B0.out.c1
    have c10 := B1.out.c0
    have c11 := B1.out.c1
    have O1 := hid (O1.out.below hb)
    clear hb
    (try dsimp only)
    refine hK.out _ _ ⟨c00, c01, c10, c11⟩ ?_
    clear hK K
    (try simp only [Act.put, List.setIfInBounds_toArray, List.set_cons_zero, List.set_cons_succ, List.getElem_toArray, List.getElem_cons_succ, List.getElem_cons_zero, Nat.reduceAdd])
    refine wh_step (i := 5) rfl (by kernel_rfl) (fun K hK => ?_)
    go_simp
    refine (toLead_any _ _ _).mono ?_
    rintro e' u2 ⟨rfl, hb⟩
    have B0 := hid (B0.out.below hb)
    have B1 := hid (B1.out.below hb)
    have S0 := hid (then_ S0.out hb z0)
    have z0 := S0.out.size
    have HV := hid (HV.out.below hb)
    have c00 := B0.out.c0
    have c01 := B0.out.c1
    have c10 := B1.out.c0
    have c11 := B1.out.c1
    have O1 := hid (O1.out.below hb)
    clear hb
    (try dsimp only)
    refine hK.out _ _ ⟨c00, c01, c10, c11⟩ ?_
    clear hK K
    (try simp only [Act.put, List.setIfInBounds_toArray, List.set_cons_zero, List.set_cons_succ, List.getElem_toArray, List.getElem_cons_succ, List.getElem_cons_zero, Nat.reduceAdd])
    refine wh_step (i := 6) rfl (by kernel_rfl) (fun K hK => ?_)
    go_simp
    refine (sCross_any _ ns _ _ _ _ _ O1.out).mono ?_
    rintro e' u3 ⟨rfl, hb⟩
    have B0 := hid (B0.out.below hb)
    have B1 := hid (B1.out.below hb)
    have S0 := hid (then_ S0.out hb z0)
    have z0 := S0.out.size
    have HV := hid (HV.out.below hb)
    have c00 := B0.out.c0
    have c01 := B0.out.c1
    have c10 := B1.out.c0
    have c11 := B1.out.c1
    clear hb O1
    (try dsimp only)
    refine hK.out _ _ ⟨c00, c01, c10, c11⟩ ?_
    clear hK K
    (try simp only [Act.put, List.setIfInBounds_toArray, List.set_cons_zero, List.set_cons_succ, List.getElem_toArray, List.getElem_cons_succ, List.getElem_cons_zero, Nat.reduceAdd])
    refine wh_take (i := 7) (v := ?_) rfl (by kernel_rfl) (by kernel_rfl) (by kernel_rfl) (fun _ _ _ h => h) (by kernel_rfl) ?_ ?_
    rotate_left
    (focus (intro w hSw; (try dsimp only at hSw); go_simp; try with_reducible rfl))
    simp only [Act.put, List.setIfInBounds_toArray, List.set_cons_zero, List.set_cons_succ, List.getElem_toArray, List.getElem_cons_succ, List.getElem_cons_zero, Nat.reduceAdd]
    refine wh_done (by kernel_rfl) ?_
    go_wp2_with fail
    refine (toNodeS_any _ ns _ HV.out hn').mono ?_
    rintro e' u4 ⟨p2, rfl, ho, hb⟩
    have B0 := hid (B0.out.below hb)
    have B1 := hid (B1.out.below hb)
    have S0 := hid (then_ S0.out hb z0)
    have z0 := S0.out.size
    have HV := hid (HV.out.below hb)
    have c00 := B0.out.c0
    have c01 := B0.out.c1
    have c10 := B1.out.c0
    have c11 := B1.out.c1
    have O2 := hid ho.pairs
    clear hb ho
    go_wp2_with fail
    refine wh_start (S := (fun w' => w'.cell? ⟨w.heap.size, 0, none⟩ = some (.int .i64 x0) ∧ w'.cell? ⟨w.heap.size, 1, none⟩ = some (.int .i64 y0) ∧ w'.cell? ⟨w.heap.size + 1, 0, none⟩ = some (.int .i64 x1) ∧ w'.cell? ⟨w.heap.size + 1, 1, none⟩ = some (.int .i64 y1))) (by kernel_rfl) ⟨c00, c01, c10, c11⟩ ?_
    refine wh_take (i := 0) (v := ?_) rfl (by kernel_rfl) (by kernel_rfl) (by kernel_rfl) (fun _ _ _ h => h) (by kernel_rfl) ?_ ?_
    rotate_left
    (focus (intro w hSw; (try dsimp only at hSw); go_simp; try with_reducible rfl))
    simp only [Act.put, List.setIfInBounds_toArray, List.set_cons_zero, List.set_cons_succ, List.getElem_toArray, List.getElem_cons_succ, List.getElem_cons_zero, Nat.reduceAdd]
    refine wh_take (i := 1) (v := ?_) rfl (by kernel_rfl) (by kernel_rfl) (by kernel_rfl) (fun _ _ _ h => h) (by kernel_rfl) ?_ ?_
    rotate_left
    (focus (intro w hSw; (try dsimp only at hSw); go_simp; try with_reducible rfl))
    simp only [Act.put, List.setIfInBounds_toArray, List.set_cons_zero, List.set_cons_succ, List.getElem_toArray, List.getElem_cons_succ, List.getElem_cons_zero, Nat.reduceAdd]
    refine wh_take (i := 3) (v := ?_) rfl (by kernel_rfl) (by kernel_rfl) (by kernel_rfl) (fun _ _ _ h => h) (by kernel_rfl) ?_ ?_
    rotate_left
    (focus (intro w hSw; (try dsimp only at hSw); go_simp; try with_reducible rfl))
    simp only [Act.put, List.setIfInBounds_toArray, List.set_cons_zero, List.set_cons_succ, List.getElem_toArray, List.getElem_cons_succ, List.getElem_cons_zero, Nat.reduceAdd]
    refine wh_step (i := 2) rfl (by kernel_rfl) (fun K hK => ?_)
    go_simp
    refine (toLead_any _ _ _).mono ?_
    rintro e' u5 ⟨rfl, hb⟩
    have hb := then_ ((Below.refl _ _).drew) hb (Nat.le_refl _)
    have B0 := hid (B0.out.below hb)
    have B1 := hid (B1.out.below hb)
    have S0 := hid (then_ S0.out hb z0)
    have z0 := S0.out.size
    have HV := hid (HV.out.below hb)
    have c00 := B0.out.c0
    have c01 := B0.out.c1
    have c10 := B1.out.c0
    have c11 := B1.out.c1
    have O2 := hid (O2.out.below hb)
    clear hb
    (try dsimp only)
    refine hK.out _ _ ⟨c00, c01, c10, c11⟩ ?_
    clear hK K
    (try simp only [Act.put, List.setIfInBounds_toArray, List.set_cons_zero, List.set_cons_succ, List.getElem_toArray, List.getElem_cons_succ, List.getElem_cons_zero, Nat.reduceAdd])
    refine wh_step (i := 4) rfl (by kernel_rfl) (fun K hK => ?_)
    go_simp
    refine (toLead_any _ _ _).mono ?_
    rintro e' u5 ⟨rfl, hb⟩
    have B0 := hid (B0.out.below hb)
    have B1 := hid (B1.out.below hb)
    have S0 := hid (then_ S0.out hb z0)
    have z0 := S0.out.size
    have HV := hid (HV.out.below hb)
    have c00 := B0.out.c0
    have c01 := B0.out.c1
    have c10 := B1.out.c0
    have c11 := B1.out.c1
    have O2 := hid (O2.out.below hb)
    clear hb
    (try dsimp only)
    refine hK.out _ _ ⟨c00, c01, c10, c11⟩ ?_
    clear hK K
    (try simp only [Act.put, List.setIfInBounds_toArray, List.set_cons_zero, List.set_cons_succ, List.getElem_toArray, List.getElem_cons_succ, List.getElem_cons_zero, Nat.reduceAdd])
    refine wh_step (i := 5) rfl (by kernel_rfl) (fun K hK => ?_)
    go_simp
    refine (iCross_any _ ns _ _ _ _ _ O2.out).mono ?_
    rintro e' u6 ⟨rfl, hb⟩
    have B0 := hid (B0.out.below hb)
    have B1 := hid (B1.out.below hb)
    have S0 := hid (then_ S0.out hb z0)
    have z0 := S0.out.size
    have HV := hid (HV.out.below hb)
    have c00 := B0.out.c0
    have c01 := B0.out.c1
    have c10 := B1.out.c0
    have c11 := B1.out.c1
    have O2 := hid (O2.out.below hb)
    clear hb
    (try dsimp only)
    refine hK.out _ _ ⟨c00, c01, c10, c11⟩ ?_
    clear hK K
    (try simp only [Act.put, List.setIfInBounds_toArray, List.set_cons_zero, List.set_cons_succ, List.getElem_toArray, List.getElem_cons_succ, List.getElem_cons_zero, Nat.reduceAdd])
    refine wh_take (i := 6) (v := ?_) rfl (by kernel_rfl) (by kernel_rfl) (by kernel_rfl) (fun _ _ _ h => h) (by kernel_rfl) ?_ ?_
    rotate_left
    (focus (intro w hSw; (try dsimp only at hSw); go_simp; try with_reducible rfl))
    simp only [Act.put, List.setIfInBounds_toArray, List.set_cons_zero, List.set_cons_succ, List.getElem_toArray, List.getElem_cons_succ, List.getElem_cons_zero, Nat.reduceAdd]
    refine wh_done (by kernel_rfl) ?_
    go_wp2_with fail
    refine (toNodeS_any _ ns _ HV.out hn').mono ?_
    rintro e' u7 ⟨p3, rfl, ho, hb⟩
    have B0 := hid (B0.out.below hb)
    have B1 := hid (B1.out.below hb)
    have S0 := hid (then_ S0.out hb z0)
    have z0 := S0.out.size
    have HV := hid (HV.out.below hb)
    have c00 := B0.out.c0
    have c01 := B0.out.c1
    have c10 := B1.out.c0
    have c11 := B1.out.c1
    have O3 := hid ho.pairs
    have O2 := hid (O2.out.below hb)
    clear hb ho
    go_wp2_with fail
    refine (eqNodeS_same _ _ ns _ O2.out O3.out).mono ?_
    rintro e' u8 ⟨rfl, hb⟩
    have B0 := hid (B0.out.below hb)
    have B1 := hid (B1.out.below hb)
    have S0 := hid (then_ S0.out hb z0)
    have z0 := S0.out.size
    have HV := hid (HV.out.below hb)
    have c00 := B0.out.c0
    have c01 := B0.out.c1
    have c10 := B1.out.c0
    have c11 := B1.out.c1
    clear hb
    go_wp2
    go_ret
    exact ⟨rfl, S0.out⟩
end Go.Proofs.Ythghbpklabdghaa

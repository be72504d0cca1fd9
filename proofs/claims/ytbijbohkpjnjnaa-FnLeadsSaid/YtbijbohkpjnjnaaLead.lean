/- What LeadOk returns, in the program and in the reference, for all arguments. No condition. -/
import Derived.Test.YtbijbohkpjnjnaaNodec
import Derived.Test.YtbijbohkpjnjnaaHeld
namespace Go.Proofs.Ytbijbohkpjnjnaa
open Go.ChangeShapes Go.WideShapes Go.ChangeAt Go.RowKit
set_option maxHeartbeats 400000
set_option linter.unusedSimpArgs false
set_option linter.unusedVariables false

theorem PairsAt.drew {w : World} {v : Value} {ns : List (Int × Int)} (h : PairsAt w v ns) : PairsAt w.drew v ns := h
def leadOkB (ns : List (Int × Int)) (f t : Int) : Bool :=
  decide (0 ≤ f) && decide (f < t) && decide (t < ns.length) && (match ns[f.toNat]?, ns[t.toNat]? with
    | some a, some b => okAll [a, b] && !eqP a.1 a.2 b.1 b.2
    | _, _ => false)
theorem neq_node (a b c d : Int) (w : World) : (binOp .neq 38 (.agg #[.int .i64 a, .int .i64 b]) (.agg #[.int .i64 c, .int .i64 d])).run Try.prog w = .ok (.bool (!eqP a b c d)) w := by
  have hS : Try.prog.underlying 38 = some (.struct (Try.prog.fieldsOf 38)) := by kernel_rfl
  have hp : Try.prog.stoodInHeld 38 = false := by kernel_rfl
  have u3 := Try.underlying3
  rw [run_neq_struct, show (10000 : Nat) = 9999 + 1 from rfl, run_equalIn_agg w 9999 38 _ _ hS hp]
  simp only [Program.fieldsOf, Try.underlying38]
  go_simp
  by_cases h1 : a = c <;> by_cases h2 : b = d <;> simp [h1, h2, eqP]
theorem iLeadOk_n1 (v : Value) (ns : List (Int × Int)) (f t : Int) (w : World) (hv : PairsAt w v ns) (h : f < 0) : Calls Try.prog 8 #[v, .agg #[.int .i64 f, .int .i64 t]] w fun e w' => e = .returned (.bool false) ∧ Below w.heap.size w w' := by
  obtain ⟨A, c, rfl, hc, hm, hcell⟩ := hv
  have b0 : Box2 (w.alloc (.cells #[.int .i64 f, .int .i64 t] 30)) w.heap.size f t := Box2.new _ _ _ _ _ rfl
  clear hcell hc hm
  have hd : decide (0 ≤ f) = false := by simp; omega
  go_enter Try.func8, Try.ntmps8
  go_wp2_with fail
  have m0 := fun p => (b0.mv p).c0
  have m1 := fun p => (b0.mv p).c1
  refine wp_region_mv (by kernel_rfl) (by kernel_rfl) ?_
  repeat (go_big_quiet_step (fail))
  refine wpQuiet_nil ?_
  intro _ hw'
  obtain ⟨q, hw''⟩ := hw'
  subst hw''
  go_wp2
  go_ret
  exact ⟨rfl, then_ ((Below.refl _ _).alloc (Nat.le_refl _) _) (below_mv _ q) (by simp)⟩
theorem iLeadOk_n2 (v : Value) (ns : List (Int × Int)) (f t : Int) (w : World) (hv : PairsAt w v ns) (h0 : 0 ≤ f) (h : t ≤ f) : Calls Try.prog 8 #[v, .agg #[.int .i64 f, .int .i64 t]] w fun e w' => e = .returned (.bool false) ∧ Below w.heap.size w w' := by
  obtain ⟨A, c, rfl, hc, hm, hcell⟩ := hv
  have b0 : Box2 (w.alloc (.cells #[.int .i64 f, .int .i64 t] 30)) w.heap.size f t := Box2.new _ _ _ _ _ rfl
  clear hcell hc hm
  have hd0 : decide (0 ≤ f) = true := by simp; omega
  have hd : decide (f < t) = false := by simp; omega
  go_enter Try.func8, Try.ntmps8
  go_wp2_with fail
  have m0 := fun p => (b0.mv p).c0
  have m1 := fun p => (b0.mv p).c1
  refine wp_region_mv (by kernel_rfl) (by kernel_rfl) ?_
  repeat (go_big_quiet_step (fail))
  refine wpQuiet_nil ?_
  intro _ hw'
  obtain ⟨q, hw''⟩ := hw'
  subst hw''
  go_wp2
  go_ret
  exact ⟨rfl, then_ ((Below.refl _ _).alloc (Nat.le_refl _) _) (below_mv _ q) (by simp)⟩
theorem iLeadOk_n3 (v : Value) (ns : List (Int × Int)) (f t : Int) (w : World) (hv : PairsAt w v ns) (h0 : 0 ≤ f) (h1 : f < t) (h : (ns.length : Int) ≤ t) : Calls Try.prog 8 #[v, .agg #[.int .i64 f, .int .i64 t]] w fun e w' => e = .returned (.bool false) ∧ Below w.heap.size w w' := by
  obtain ⟨A, c, rfl, hc, hm, hcell⟩ := hv
  have b0 : Box2 (w.alloc (.cells #[.int .i64 f, .int .i64 t] 30)) w.heap.size f t := Box2.new _ _ _ _ _ rfl
  clear hcell hc hm
  have hd0 : decide (0 ≤ f) = true := by simp; omega
  have hd1 : decide (f < t) = true := by simp; omega
  have hd : decide (t < (ns.length : Int)) = false := by simp; omega
  go_enter Try.func8, Try.ntmps8
  go_wp2_with fail
  have m0 := fun p => (b0.mv p).c0
  have m1 := fun p => (b0.mv p).c1
  refine wp_region_mv (by kernel_rfl) (by kernel_rfl) ?_
  repeat (go_big_quiet_step (fail))
  refine wpQuiet_nil ?_
  intro _ hw'
  obtain ⟨q, hw''⟩ := hw'
  subst hw''
  go_wp2
  go_ret
  exact ⟨rfl, then_ ((Below.refl _ _).alloc (Nat.le_refl _) _) (below_mv _ q) (by simp)⟩
set_option maxHeartbeats 4000000 in
theorem iLeadOk_y (v : Value) (ns : List (Int × Int)) (f t : Int) (w : World) (hv : PairsAt w v ns) (h0 : 0 ≤ f) (h1 : f < t) (h2 : t < (ns.length : Int)) (ax ay bx by' : Int) (ha : ns[f.toNat]? = some (ax, ay)) (hb : ns[t.toNat]? = some (bx, by')) : Calls Try.prog 8 #[v, .agg #[.int .i64 f, .int .i64 t]] w fun e w' => e = .returned (.bool (okAll [(ax, ay), (bx, by')] && !eqP ax ay bx by')) ∧ Below w.heap.size w w' := by
  have heq := neq_node
  obtain ⟨A, c, rfl, hc, hm, hcell⟩ := hv
  unfold maxLen at hm
  obtain ⟨b, off, rfl, hlt, ca0, ca1⟩ := hcell _ _ _ ha
  obtain ⟨b', off', hbo, _, cb0, cb1⟩ := hcell _ _ _ hb
  injection hbo with hbo
  injection hbo with hb1 hb2
  subst hb1 hb2
  clear hcell ha hb
  have b0 : Box2 (w.alloc (.cells #[.int .i64 f, .int .i64 t] 30)) w.heap.size f t := Box2.new _ _ _ _ _ rfl
  have l0 := b0.c0
  have l1 := b0.c1
  have ea0 : (w.alloc (.cells #[.int .i64 f, .int .i64 t] 30)).cell? ⟨b, off + f.toNat * 2, none⟩ = some (.int .i64 ax) := by rw [World.cell?_alloc_lt _ _ _ hlt]; exact ca0
  have ea1 : (w.alloc (.cells #[.int .i64 f, .int .i64 t] 30)).cell? ⟨b, off + f.toNat * 2 + 1, none⟩ = some (.int .i64 ay) := by rw [World.cell?_alloc_lt _ _ _ hlt]; exact ca1
  have eb0 : (w.alloc (.cells #[.int .i64 f, .int .i64 t] 30)).cell? ⟨b, off + t.toNat * 2, none⟩ = some (.int .i64 bx) := by rw [World.cell?_alloc_lt _ _ _ hlt]; exact cb0
  have eb1 : (w.alloc (.cells #[.int .i64 f, .int .i64 t] 30)).cell? ⟨b, off + t.toNat * 2 + 1, none⟩ = some (.int .i64 by') := by rw [World.cell?_alloc_lt _ _ _ hlt]; exact cb1
  have hd0 : decide (0 ≤ f) = true := by simp; omega
  have hd1 : decide (f < t) = true := by simp; omega
  have hd2 : decide (t < (ns.length : Int)) = true := by simp; omega
  have hf2 : f < (ns.length : Int) := by omega
  have ht0 : 0 ≤ t := by omega
  go_enter Try.func8, Try.ntmps8
  cases hok : okAll [(ax, ay), (bx, by')]
  · go_wp2_with fail
    refine lexH_start (S := (fun w' => w'.cell? ⟨w.heap.size, 0, none⟩ = some (.int .i64 f) ∧ w'.cell? ⟨w.heap.size, 1, none⟩ = some (.int .i64 t) ∧ w'.cell? ⟨b, off + f.toNat * 2, none⟩ = some (.int .i64 ax) ∧ w'.cell? ⟨b, off + f.toNat * 2 + 1, none⟩ = some (.int .i64 ay) ∧ w'.cell? ⟨b, off + t.toNat * 2, none⟩ = some (.int .i64 bx) ∧ w'.cell? ⟨b, off + t.toNat * 2 + 1, none⟩ = some (.int .i64 by'))) (by kernel_rfl) ⟨l0, l1, ea0, ea1, eb0, eb1⟩ ?_
    iterate 28 (refine lexH_take (v := ?_) rfl (by kernel_rfl) (by kernel_rfl) (by kernel_rfl) (fun _ _ _ h => h) (by kernel_rfl) ?_ ?_; rotate_left; (focus (intro w hSw; (try dsimp only at hSw); go_simp; try with_reducible rfl)); simp only [Act.put, List.setIfInBounds_toArray, List.set_cons_zero, List.set_cons_succ, List.getElem_toArray, List.getElem_cons_succ, List.getElem_cons_zero, Nat.reduceAdd])
    refine lexH_step rfl (by kernel_rfl) (fun K hK => ?_)
    go_simp
    refine hK.out _ _ ⟨(b0.alloc _).c0, (b0.alloc _).c1, (World.cell?_alloc_lt _ _ _ (by simp; omega)).trans ea0, (World.cell?_alloc_lt _ _ _ (by simp; omega)).trans ea1, (World.cell?_alloc_lt _ _ _ (by simp; omega)).trans eb0, (World.cell?_alloc_lt _ _ _ (by simp; omega)).trans eb1⟩ ?_
    clear hK K
    (try simp only [Act.put, List.setIfInBounds_toArray, List.set_cons_zero, List.set_cons_succ, List.getElem_toArray, List.getElem_cons_succ, List.getElem_cons_zero, Nat.reduceAdd])
    refine lexH_step rfl (by kernel_rfl) (fun K hK => ?_)
    go_simp
    refine (nodesOk_any _ [(ax, ay), (bx, by')] _ (by exact PairsAt.drew (pairs_new _ _ _ _ _ _ (by simp) rfl rfl))).mono ?_
    rintro e w1 ⟨rfl, hb1⟩
    rw [hok]
    have s1 := then_ (((Below.refl _ _).alloc (Nat.le_refl _) (.cells #[.int .i64 f, .int .i64 t] 30)).alloc (by simp) (.cells (flat [(ax, ay), (bx, by')]).toArray 38)).drew hb1 (by simp; omega)
    dsimp only
    refine hK.out _ _ ⟨(hb1.cell (p := ⟨w.heap.size, 0, none⟩) (by simp; omega)).trans (b0.alloc _).c0, (hb1.cell (p := ⟨w.heap.size, 1, none⟩) (by simp; omega)).trans (b0.alloc _).c1, (hb1.cell (p := ⟨b, off + f.toNat * 2, none⟩) (by simp; omega)).trans ((World.cell?_alloc_lt _ _ _ (by simp; omega)).trans ea0), (hb1.cell (p := ⟨b, off + f.toNat * 2 + 1, none⟩) (by simp; omega)).trans ((World.cell?_alloc_lt _ _ _ (by simp; omega)).trans ea1), (hb1.cell (p := ⟨b, off + t.toNat * 2, none⟩) (by simp; omega)).trans ((World.cell?_alloc_lt _ _ _ (by simp; omega)).trans eb0), (hb1.cell (p := ⟨b, off + t.toNat * 2 + 1, none⟩) (by simp; omega)).trans ((World.cell?_alloc_lt _ _ _ (by simp; omega)).trans eb1)⟩ ?_
    clear hK K
    (try simp only [Act.put, List.setIfInBounds_toArray, List.set_cons_zero, List.set_cons_succ, List.getElem_toArray, List.getElem_cons_succ, List.getElem_cons_zero, Nat.reduceAdd])
    iterate 2 (refine lexH_take (v := ?_) rfl (by kernel_rfl) (by kernel_rfl) (by kernel_rfl) (fun _ _ _ h => h) (by kernel_rfl) ?_ ?_; rotate_left; (focus (intro w hSw; (try dsimp only at hSw); go_simp; try with_reducible rfl)); simp only [Act.put, List.setIfInBounds_toArray, List.set_cons_zero, List.set_cons_succ, List.getElem_toArray, List.getElem_cons_succ, List.getElem_cons_zero, Nat.reduceAdd])
    iterate 11 (refine lexH_skip rfl (by kernel_rfl) (by kernel_rfl) (by kernel_rfl) (fun _ _ _ h => h) (by kernel_rfl) ?_; simp only [Act.put, List.setIfInBounds_toArray, List.set_cons_zero, List.set_cons_succ, List.getElem_toArray, List.getElem_cons_succ, List.getElem_cons_zero, Nat.reduceAdd])
    iterate 2 (refine lexH_take (v := ?_) rfl (by kernel_rfl) (by kernel_rfl) (by kernel_rfl) (fun _ _ _ h => h) (by kernel_rfl) ?_ ?_; rotate_left; (focus (intro w hSw; (try dsimp only at hSw); go_simp; try with_reducible rfl)); simp only [Act.put, List.setIfInBounds_toArray, List.set_cons_zero, List.set_cons_succ, List.getElem_toArray, List.getElem_cons_succ, List.getElem_cons_zero, Nat.reduceAdd])
    refine lexH_done (by kernel_rfl) ?_
    go_wp2
    go_ret
    exact ⟨by simp, s1⟩
  · go_wp2_with fail
    refine lexH_start (S := (fun w' => w'.cell? ⟨w.heap.size, 0, none⟩ = some (.int .i64 f) ∧ w'.cell? ⟨w.heap.size, 1, none⟩ = some (.int .i64 t) ∧ w'.cell? ⟨b, off + f.toNat * 2, none⟩ = some (.int .i64 ax) ∧ w'.cell? ⟨b, off + f.toNat * 2 + 1, none⟩ = some (.int .i64 ay) ∧ w'.cell? ⟨b, off + t.toNat * 2, none⟩ = some (.int .i64 bx) ∧ w'.cell? ⟨b, off + t.toNat * 2 + 1, none⟩ = some (.int .i64 by'))) (by kernel_rfl) ⟨l0, l1, ea0, ea1, eb0, eb1⟩ ?_
    iterate 28 (refine lexH_take (v := ?_) rfl (by kernel_rfl) (by kernel_rfl) (by kernel_rfl) (fun _ _ _ h => h) (by kernel_rfl) ?_ ?_; rotate_left; (focus (intro w hSw; (try dsimp only at hSw); go_simp; try with_reducible rfl)); simp only [Act.put, List.setIfInBounds_toArray, List.set_cons_zero, List.set_cons_succ, List.getElem_toArray, List.getElem_cons_succ, List.getElem_cons_zero, Nat.reduceAdd])
    refine lexH_step rfl (by kernel_rfl) (fun K hK => ?_)
    go_simp
    refine hK.out _ _ ⟨(b0.alloc _).c0, (b0.alloc _).c1, (World.cell?_alloc_lt _ _ _ (by simp; omega)).trans ea0, (World.cell?_alloc_lt _ _ _ (by simp; omega)).trans ea1, (World.cell?_alloc_lt _ _ _ (by simp; omega)).trans eb0, (World.cell?_alloc_lt _ _ _ (by simp; omega)).trans eb1⟩ ?_
    clear hK K
    (try simp only [Act.put, List.setIfInBounds_toArray, List.set_cons_zero, List.set_cons_succ, List.getElem_toArray, List.getElem_cons_succ, List.getElem_cons_zero, Nat.reduceAdd])
    refine lexH_step rfl (by kernel_rfl) (fun K hK => ?_)
    go_simp
    refine (nodesOk_any _ [(ax, ay), (bx, by')] _ (by exact PairsAt.drew (pairs_new _ _ _ _ _ _ (by simp) rfl rfl))).mono ?_
    rintro e w1 ⟨rfl, hb1⟩
    rw [hok]
    have s1 := then_ (((Below.refl _ _).alloc (Nat.le_refl _) (.cells #[.int .i64 f, .int .i64 t] 30)).alloc (by simp) (.cells (flat [(ax, ay), (bx, by')]).toArray 38)).drew hb1 (by simp; omega)
    dsimp only
    refine hK.out _ _ ⟨(hb1.cell (p := ⟨w.heap.size, 0, none⟩) (by simp; omega)).trans (b0.alloc _).c0, (hb1.cell (p := ⟨w.heap.size, 1, none⟩) (by simp; omega)).trans (b0.alloc _).c1, (hb1.cell (p := ⟨b, off + f.toNat * 2, none⟩) (by simp; omega)).trans ((World.cell?_alloc_lt _ _ _ (by simp; omega)).trans ea0), (hb1.cell (p := ⟨b, off + f.toNat * 2 + 1, none⟩) (by simp; omega)).trans ((World.cell?_alloc_lt _ _ _ (by simp; omega)).trans ea1), (hb1.cell (p := ⟨b, off + t.toNat * 2, none⟩) (by simp; omega)).trans ((World.cell?_alloc_lt _ _ _ (by simp; omega)).trans eb0), (hb1.cell (p := ⟨b, off + t.toNat * 2 + 1, none⟩) (by simp; omega)).trans ((World.cell?_alloc_lt _ _ _ (by simp; omega)).trans eb1)⟩ ?_
    clear hK K
    (try simp only [Act.put, List.setIfInBounds_toArray, List.set_cons_zero, List.set_cons_succ, List.getElem_toArray, List.getElem_cons_succ, List.getElem_cons_zero, Nat.reduceAdd])
    iterate 2 (refine lexH_take (v := ?_) rfl (by kernel_rfl) (by kernel_rfl) (by kernel_rfl) (fun _ _ _ h => h) (by kernel_rfl) ?_ ?_; rotate_left; (focus (intro w hSw; (try dsimp only at hSw); go_simp; try with_reducible rfl)); simp only [Act.put, List.setIfInBounds_toArray, List.set_cons_zero, List.set_cons_succ, List.getElem_toArray, List.getElem_cons_succ, List.getElem_cons_zero, Nat.reduceAdd])
    iterate 0 (refine lexH_skip rfl (by kernel_rfl) (by kernel_rfl) (by kernel_rfl) (fun _ _ _ h => h) (by kernel_rfl) ?_; simp only [Act.put, List.setIfInBounds_toArray, List.set_cons_zero, List.set_cons_succ, List.getElem_toArray, List.getElem_cons_succ, List.getElem_cons_zero, Nat.reduceAdd])
    iterate 13 (refine lexH_take (v := ?_) rfl (by kernel_rfl) (by kernel_rfl) (by kernel_rfl) (fun _ _ _ h => h) (by kernel_rfl) ?_ ?_; rotate_left; (focus (intro w hSw; (try dsimp only at hSw); go_simp; try with_reducible rfl)); simp only [Act.put, List.setIfInBounds_toArray, List.set_cons_zero, List.set_cons_succ, List.getElem_toArray, List.getElem_cons_succ, List.getElem_cons_zero, Nat.reduceAdd])
    refine lexH_done (by kernel_rfl) ?_
    go_wp2
    go_ret
    exact ⟨by simp, s1⟩
theorem get_pair (ns : List (Int × Int)) (i : Int) (h0 : 0 ≤ i) (h1 : i < ns.length) : ∃ x y, ns[i.toNat]? = some (x, y) :=
  ⟨_, _, List.getElem?_eq_getElem (by omega)⟩
theorem iLeadOk_any (v : Value) (ns : List (Int × Int)) (f t : Int) (w : World) (hv : PairsAt w v ns) : Calls Try.prog 8 #[v, .agg #[.int .i64 f, .int .i64 t]] w fun e w' => e = .returned (.bool (leadOkB ns f t)) ∧ Below w.heap.size w w' := by
  by_cases h0 : 0 ≤ f
  rotate_left
  · exact (iLeadOk_n1 v ns f t w hv (by omega)).mono fun _ _ ⟨he, hb⟩ => ⟨he.trans (ret_bool (by simp [leadOkB, h0])), hb⟩
  by_cases h1 : f < t
  rotate_left
  · exact (iLeadOk_n2 v ns f t w hv h0 (by omega)).mono fun _ _ ⟨he, hb⟩ => ⟨he.trans (ret_bool (by simp [leadOkB, h1])), hb⟩
  by_cases h2 : t < (ns.length : Int)
  rotate_left
  · exact (iLeadOk_n3 v ns f t w hv h0 h1 (by omega)).mono fun _ _ ⟨he, hb⟩ => ⟨he.trans (ret_bool (by simp [leadOkB, h2])), hb⟩
  obtain ⟨ax, ay, ha⟩ := get_pair ns f h0 (by omega)
  obtain ⟨bx, by', hb⟩ := get_pair ns t (by omega) h2
  exact (iLeadOk_y v ns f t w hv h0 h1 h2 ax ay bx by' ha hb).mono fun _ _ ⟨he, hb'⟩ => ⟨he.trans (ret_bool (by simp [leadOkB, h0, h1, h2, ha, hb])), hb'⟩
end Go.Proofs.Ytbijbohkpjnjnaa

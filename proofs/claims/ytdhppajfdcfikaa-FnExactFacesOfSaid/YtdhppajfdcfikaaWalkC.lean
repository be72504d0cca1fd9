/- WalkArea and SameWalk, in the program and in the reference. No condition. -/
import Derived.Test.YtdhppajfdcfikaaWalk
import Derived.Test.YtdhppajfdcfikaaArea
namespace Go.Proofs.Ytdhppajfdcfikaa
open Go.ChangeShapes Go.WideShapes Go.ChangeAt Go.RowKit
set_option maxHeartbeats 2000000
set_option linter.unusedSimpArgs false
set_option linter.unusedVariables false
theorem walkI_darts {ns ls : List (Int × Int)} (F : WinFacts ns ls) {d : Nat} (hd : d < 2 * ls.length) : Darts ls (walkI ns ls d) := by
  have T := next_turns F
  refine ⟨by rw [walkI_len]; exact (T.per_law hd).2.1, fun i x hx => ?_⟩
  obtain ⟨m, hm, rfl⟩ := List.mem_map.1 (List.mem_of_getElem? hx)
  exact ⟨m, rfl, T.wk_lt hd hm⟩
theorem iArea_nil (vn vl : Value) (ns ls : List (Int × Int)) (v : Value) (w : World) (hn : PairsAt w vn ns) (hl : PairsAt w vl ls) (hv : IntsAt w v []) : Calls Try.prog 60 #[.agg #[vn, vl], v] w fun e w' => e = .returned (.int .i64 0) ∧ Below w.heap.size w w' := by
  have s0 : Below w.heap.size w (w.alloc (.cells #[vn, vl] 31)) := (Below.refl _ _).alloc (Nat.le_refl _) _
  have HN := hid (hn.below s0)
  have HL := hid (hl.below s0)
  have B0 := hid (BoxV.new w vn vl 31 w.heap.size rfl)
  have S0 := hid s0
  clear s0
  obtain ⟨A, c, rfl, hcn, hm, _⟩ := id hn
  obtain ⟨A', c', rfl, hcl, hm', _⟩ := id hl
  unfold maxLen at hm hm'
  clear hn hl
  have v0 := B0.out.c0
  have v1 := B0.out.c1
  obtain ⟨A2, c2, rfl, hm2, _⟩ := id hv
  clear hv hm2
  go_enter Try.func60, Try.ntmps60
  go_wp2_with fail
  refine wp_loop_rounds 1 ?_
  rw [rounds_succ]
  go_wp2
  go_ret
  exact ⟨rfl, S0.out⟩
theorem sArea_nil (vn vl : Value) (ns ls : List (Int × Int)) (v : Value) (w : World) (hn : PairsAt w vn ns) (hl : PairsAt w vl ls) (hv : IntsAt w v []) : Calls Try.prog 59 #[.agg #[vn, vl], v] w fun e w' => e = .returned (.int .i64 0) ∧ Below w.heap.size w w' := by
  have s0 : Below w.heap.size w (w.alloc (.cells #[vn, vl] 31)) := (Below.refl _ _).alloc (Nat.le_refl _) _
  have HN := hid (hn.below s0)
  have HL := hid (hl.below s0)
  have B0 := hid (BoxV.new w vn vl 31 w.heap.size rfl)
  have S0 := hid s0
  clear s0
  obtain ⟨A, c, rfl, hcn, hm, _⟩ := id hn
  obtain ⟨A', c', rfl, hcl, hm', _⟩ := id hl
  unfold maxLen at hm hm'
  clear hn hl
  have v0 := B0.out.c0
  have v1 := B0.out.c1
  obtain ⟨A2, c2, rfl, hm2, _⟩ := id hv
  clear hv hm2
  go_enter Try.func59, Try.ntmps59
  go_wp2_with fail
  refine wp_loop_rounds 1 ?_
  rw [rounds_succ]
  go_wp2
  go_ret
  exact ⟨rfl, S0.out⟩
def waF (ns ls : List (Int × Int)) (d : Int) : Int := areaL ns ls (woF ns ls d)
def swF (ns ls : List (Int × Int)) (d e : Int) : Bool := decide (e ∈ woF ns ls d)
theorem swF_dart {ns ls : List (Int × Int)} {d e : Int} (h : swF ns ls d e = true) : isDart ns ls e = true := by
  unfold swF at h
  rw [decide_eq_true_iff] at h
  unfold woF at h
  split at h
  · rename_i hd
    obtain ⟨hok, n, rfl, hnl⟩ := dart_nat hd
    obtain ⟨i, hi⟩ := List.getElem?_of_mem h
    obtain ⟨m, rfl, hm⟩ := (walkI_darts (win_facts hok) hnl).2 i e hi
    unfold isDart inB
    rw [hok]
    simp; omega
  · cases h
theorem iWA_any (vn vl : Value) (ns ls : List (Int × Int)) (d : Int) (w : World) (hn : PairsAt w vn ns) (hl : PairsAt w vl ls) (hbig : ls.length ≤ 1048576) : Calls Try.prog 22 #[.agg #[vn, vl], .int .i64 d] w fun e w' => e = .returned (.int .i64 (waF ns ls d)) ∧ Below w.heap.size w w' := by
  have s0 : Below w.heap.size w (w.alloc (.cells #[vn, vl] 31)) := (Below.refl _ _).alloc (Nat.le_refl _) _
  have HN := hid (hn.below s0)
  have HL := hid (hl.below s0)
  have B0 := hid (BoxV.new w vn vl 31 w.heap.size rfl)
  have S0 := hid s0
  clear s0
  obtain ⟨A, c, rfl, hcn, hm, _⟩ := id hn
  obtain ⟨A', c', rfl, hcl, hm', _⟩ := id hl
  unfold maxLen at hm hm'
  clear hn hl
  have v0 := B0.out.c0
  have v1 := B0.out.c1
  have LE' := woF_len ns ls d
  have LE : (woF ns ls d).length ≤ 1000 := by
    unfold woF at LE' ⊢
    split at LE'
    · rename_i hd; have := dart_bd hd; obtain ⟨hok, _⟩ := dart_nat hd; have := (win_facts hok).m2; rw [if_pos hd]; omega
    · rename_i hd; rw [if_neg hd]; simp
  clear LE'
  have AR := hid (fun (v : Value) (W : World) (h1 : PairsAt W (.slice A ns.length c) ns) (h2 : PairsAt W (.slice A' ls.length c') ls) (h3 : IntsAt W v (woF ns ls d)) => show Calls Try.prog _ #[.agg #[.slice A ns.length c, .slice A' ls.length c'], v] W fun e w' => e = .returned (.int .i64 (waF ns ls d)) ∧ Below W.heap.size W w' by
    by_cases hd : isDart ns ls d = true
    · obtain ⟨hok, n, rfl, hnl⟩ := dart_nat hd
      have e : woF ns ls (n : Int) = walkI ns ls n := by unfold woF; rw [if_pos hd]; rfl
      have D := walkI_darts (win_facts hok) hnl
      rw [← e] at D
      exact iArea_any _ _ ns ls v _ W h1 h2 hok h3 D
    · have e : woF ns ls d = [] := by unfold woF; rw [if_neg hd]
      have e2 : waF ns ls d = 0 := by unfold waF; rw [e]; rfl
      rw [e] at h3
      rw [e2]
      exact iArea_nil _ _ ns ls v W h1 h2 h3)
  have CELLS := hid (fun W (h : Below (w.alloc (.cells #[.slice A ns.length c, .slice A' ls.length c'] 31)).heap.size (w.alloc (.cells #[.slice A ns.length c, .slice A' ls.length c'] 31)) W) => And.intro (B0.out.below h).c0 (B0.out.below h).c1)
  have C1 := hid (fun W (h : Below (w.alloc (.cells #[.slice A ns.length c, .slice A' ls.length c'] 31)).heap.size (w.alloc (.cells #[.slice A ns.length c, .slice A' ls.length c'] 31)) W) => iWO_any _ _ ns ls d W (HN.out.below h) (HL.out.below h) hbig)
  have C2 := hid (fun v W (h : Below (w.alloc (.cells #[.slice A ns.length c, .slice A' ls.length c'] 31)).heap.size (w.alloc (.cells #[.slice A ns.length c, .slice A' ls.length c'] 31)) W) h3 => AR.out v W (HN.out.below h) (HL.out.below h) h3)
  go_enter Try.func22, Try.ntmps22
  go_wp2_with fail
  refine wm_start (S := fun W => Below (w.alloc (.cells #[.slice A ns.length c, .slice A' ls.length c'] 31)).heap.size (w.alloc (.cells #[.slice A ns.length c, .slice A' ls.length c'] 31)) W) (by kernel_rfl) (Below.refl _ _).drew ?_
  refine wm_take (i := 0) (v := ?_) rfl (by kernel_rfl) (by kernel_rfl) (by kernel_rfl) (fun _ _ _ h => h) (by kernel_rfl) ?_ ?_
  rotate_left
  (focus (intro w hSw; obtain ⟨z0, z1⟩ := CELLS.out _ hSw; go_simp; try with_reducible rfl))
  simp only [Act.put, List.setIfInBounds_toArray, List.set_cons_zero, List.set_cons_succ, List.getElem_toArray, List.getElem_cons_succ, List.getElem_cons_zero, Nat.reduceAdd]
  refine wm_take (i := 1) (v := ?_) rfl (by kernel_rfl) (by kernel_rfl) (by kernel_rfl) (fun _ _ _ h => h) (by kernel_rfl) ?_ ?_
  rotate_left
  (focus (intro w hSw; obtain ⟨z0, z1⟩ := CELLS.out _ hSw; go_simp; try with_reducible rfl))
  simp only [Act.put, List.setIfInBounds_toArray, List.set_cons_zero, List.set_cons_succ, List.getElem_toArray, List.getElem_cons_succ, List.getElem_cons_zero, Nat.reduceAdd]
  refine wm_take (i := 2) (v := ?_) rfl (by kernel_rfl) (by kernel_rfl) (by kernel_rfl) (fun _ _ _ h => h) (by kernel_rfl) ?_ ?_
  rotate_left
  (focus (intro w hSw; obtain ⟨z0, z1⟩ := CELLS.out _ hSw; go_simp; try with_reducible rfl))
  simp only [Act.put, List.setIfInBounds_toArray, List.set_cons_zero, List.set_cons_succ, List.getElem_toArray, List.getElem_cons_succ, List.getElem_cons_zero, Nat.reduceAdd]
  refine wm_each (l := [3]) (by kernel_rfl) (by simp) ?_
  intro v1 hv1 hS1
  refine Each.cons rfl (fun K hK => ?_) Each.nil
  go_simp
  refine (C1.out v1 hS1).mono ?_
  rintro e w3 ⟨v, rfl, ho, hb3⟩
  have hS3 := then_ hS1 hb3 hS1.size
  (try dsimp only)
  refine hK.out _ _ ⟨hS3, ?_⟩
  clear hK K
  (try simp only [Act.put, List.setIfInBounds_toArray, List.set_cons_zero, List.set_cons_succ, List.getElem_toArray, List.getElem_cons_succ, List.getElem_cons_zero, Nat.reduceAdd])
  refine wm_each (l := [4]) (by kernel_rfl) (by simp) ?_
  intro v2 hv2 hS2
  have ho2 := (own_below ho hv2).ints (by omega)
  refine Each.cons rfl (fun K hK => ?_) Each.nil
  go_simp
  refine (C2.out _ v2 hS2 ho2).mono ?_
  rintro e w4 ⟨rfl, hb4⟩
  have hS4 := then_ hS2 hb4 hS2.size
  (try dsimp only)
  refine hK.out _ _ ⟨hS4, ?_⟩
  clear hK K
  (try simp only [Act.put, List.setIfInBounds_toArray, List.set_cons_zero, List.set_cons_succ, List.getElem_toArray, List.getElem_cons_succ, List.getElem_cons_zero, Nat.reduceAdd])
  refine wm_take (i := 5) (v := ?_) rfl (by kernel_rfl) (by kernel_rfl) (by kernel_rfl) (fun _ _ _ h => h) (by kernel_rfl) ?_ ?_
  rotate_left
  (focus (intro w hSw; skip; go_simp; try with_reducible rfl))
  simp only [Act.put, List.setIfInBounds_toArray, List.set_cons_zero, List.set_cons_succ, List.getElem_toArray, List.getElem_cons_succ, List.getElem_cons_zero, Nat.reduceAdd]
  refine wm_done (by kernel_rfl) ?_
  intro w9 hv9 hS9
  have S9 := hid (then_ S0.out hS9 S0.out.size)
  clear ho hv9 hS9 hS3 hS1 hv1 hb3 CELLS C1 C2 hS4 hb4 hS2 hv2 ho2
  go_wp2
  go_ret
  exact ⟨rfl, S9.out⟩
theorem sWA_any (vn vl : Value) (ns ls : List (Int × Int)) (d : Int) (w : World) (hn : PairsAt w vn ns) (hl : PairsAt w vl ls) (hbig : ls.length ≤ 1048576) : Calls Try.prog 21 #[.agg #[vn, vl], .int .i64 d] w fun e w' => e = .returned (.int .i64 (waF ns ls d)) ∧ Below w.heap.size w w' := by
  have s0 : Below w.heap.size w (w.alloc (.cells #[vn, vl] 31)) := (Below.refl _ _).alloc (Nat.le_refl _) _
  have HN := hid (hn.below s0)
  have HL := hid (hl.below s0)
  have B0 := hid (BoxV.new w vn vl 31 w.heap.size rfl)
  have S0 := hid s0
  clear s0
  obtain ⟨A, c, rfl, hcn, hm, _⟩ := id hn
  obtain ⟨A', c', rfl, hcl, hm', _⟩ := id hl
  unfold maxLen at hm hm'
  clear hn hl
  have v0 := B0.out.c0
  have v1 := B0.out.c1
  have LE' := woF_len ns ls d
  have LE : (woF ns ls d).length ≤ 1000 := by
    unfold woF at LE' ⊢
    split at LE'
    · rename_i hd; have := dart_bd hd; obtain ⟨hok, _⟩ := dart_nat hd; have := (win_facts hok).m2; rw [if_pos hd]; omega
    · rename_i hd; rw [if_neg hd]; simp
  clear LE'
  have AR := hid (fun (v : Value) (W : World) (h1 : PairsAt W (.slice A ns.length c) ns) (h2 : PairsAt W (.slice A' ls.length c') ls) (h3 : IntsAt W v (woF ns ls d)) => show Calls Try.prog _ #[.agg #[.slice A ns.length c, .slice A' ls.length c'], v] W fun e w' => e = .returned (.int .i64 (waF ns ls d)) ∧ Below W.heap.size W w' by
    by_cases hd : isDart ns ls d = true
    · obtain ⟨hok, n, rfl, hnl⟩ := dart_nat hd
      have e : woF ns ls (n : Int) = walkI ns ls n := by unfold woF; rw [if_pos hd]; rfl
      have D := walkI_darts (win_facts hok) hnl
      rw [← e] at D
      exact sArea_any _ _ ns ls v _ W h1 h2 hok h3 D
    · have e : woF ns ls d = [] := by unfold woF; rw [if_neg hd]
      have e2 : waF ns ls d = 0 := by unfold waF; rw [e]; rfl
      rw [e] at h3
      rw [e2]
      exact sArea_nil _ _ ns ls v W h1 h2 h3)
  have CELLS := hid (fun W (h : Below (w.alloc (.cells #[.slice A ns.length c, .slice A' ls.length c'] 31)).heap.size (w.alloc (.cells #[.slice A ns.length c, .slice A' ls.length c'] 31)) W) => And.intro (B0.out.below h).c0 (B0.out.below h).c1)
  have C1 := hid (fun W (h : Below (w.alloc (.cells #[.slice A ns.length c, .slice A' ls.length c'] 31)).heap.size (w.alloc (.cells #[.slice A ns.length c, .slice A' ls.length c'] 31)) W) => sWO_any _ _ ns ls d W (HN.out.below h) (HL.out.below h) hbig)
  have C2 := hid (fun v W (h : Below (w.alloc (.cells #[.slice A ns.length c, .slice A' ls.length c'] 31)).heap.size (w.alloc (.cells #[.slice A ns.length c, .slice A' ls.length c'] 31)) W) h3 => AR.out v W (HN.out.below h) (HL.out.below h) h3)
  go_enter Try.func21, Try.ntmps21
  go_wp2_with fail
  refine wm_start (S := fun W => Below (w.alloc (.cells #[.slice A ns.length c, .slice A' ls.length c'] 31)).heap.size (w.alloc (.cells #[.slice A ns.length c, .slice A' ls.length c'] 31)) W) (by kernel_rfl) (Below.refl _ _).drew ?_
  refine wm_take (i := 0) (v := ?_) rfl (by kernel_rfl) (by kernel_rfl) (by kernel_rfl) (fun _ _ _ h => h) (by kernel_rfl) ?_ ?_
  rotate_left
  (focus (intro w hSw; obtain ⟨z0, z1⟩ := CELLS.out _ hSw; go_simp; try with_reducible rfl))
  simp only [Act.put, List.setIfInBounds_toArray, List.set_cons_zero, List.set_cons_succ, List.getElem_toArray, List.getElem_cons_succ, List.getElem_cons_zero, Nat.reduceAdd]
  refine wm_take (i := 1) (v := ?_) rfl (by kernel_rfl) (by kernel_rfl) (by kernel_rfl) (fun _ _ _ h => h) (by kernel_rfl) ?_ ?_
  rotate_left
  (focus (intro w hSw; obtain ⟨z0, z1⟩ := CELLS.out _ hSw; go_simp; try with_reducible rfl))
  simp only [Act.put, List.setIfInBounds_toArray, List.set_cons_zero, List.set_cons_succ, List.getElem_toArray, List.getElem_cons_succ, List.getElem_cons_zero, Nat.reduceAdd]
  refine wm_take (i := 2) (v := ?_) rfl (by kernel_rfl) (by kernel_rfl) (by kernel_rfl) (fun _ _ _ h => h) (by kernel_rfl) ?_ ?_
  rotate_left
  (focus (intro w hSw; obtain ⟨z0, z1⟩ := CELLS.out _ hSw; go_simp; try with_reducible rfl))
  simp only [Act.put, List.setIfInBounds_toArray, List.set_cons_zero, List.set_cons_succ, List.getElem_toArray, List.getElem_cons_succ, List.getElem_cons_zero, Nat.reduceAdd]
  refine wm_each (l := [3]) (by kernel_rfl) (by simp) ?_
  intro v1 hv1 hS1
  refine Each.cons rfl (fun K hK => ?_) Each.nil
  go_simp
  refine (C1.out v1 hS1).mono ?_
  rintro e w3 ⟨v, rfl, ho, hb3⟩
  have hS3 := then_ hS1 hb3 hS1.size
  (try dsimp only)
  refine hK.out _ _ ⟨hS3, ?_⟩
  clear hK K
  (try simp only [Act.put, List.setIfInBounds_toArray, List.set_cons_zero, List.set_cons_succ, List.getElem_toArray, List.getElem_cons_succ, List.getElem_cons_zero, Nat.reduceAdd])
  refine wm_each (l := [4]) (by kernel_rfl) (by simp) ?_
  intro v2 hv2 hS2
  have ho2 := (own_below ho hv2).ints (by omega)
  refine Each.cons rfl (fun K hK => ?_) Each.nil
  go_simp
  refine (C2.out _ v2 hS2 ho2).mono ?_
  rintro e w4 ⟨rfl, hb4⟩
  have hS4 := then_ hS2 hb4 hS2.size
  (try dsimp only)
  refine hK.out _ _ ⟨hS4, ?_⟩
  clear hK K
  (try simp only [Act.put, List.setIfInBounds_toArray, List.set_cons_zero, List.set_cons_succ, List.getElem_toArray, List.getElem_cons_succ, List.getElem_cons_zero, Nat.reduceAdd])
  refine wm_take (i := 5) (v := ?_) rfl (by kernel_rfl) (by kernel_rfl) (by kernel_rfl) (fun _ _ _ h => h) (by kernel_rfl) ?_ ?_
  rotate_left
  (focus (intro w hSw; skip; go_simp; try with_reducible rfl))
  simp only [Act.put, List.setIfInBounds_toArray, List.set_cons_zero, List.set_cons_succ, List.getElem_toArray, List.getElem_cons_succ, List.getElem_cons_zero, Nat.reduceAdd]
  refine wm_done (by kernel_rfl) ?_
  intro w9 hv9 hS9
  have S9 := hid (then_ S0.out hS9 S0.out.size)
  clear ho hv9 hS9 hS3 hS1 hv1 hb3 CELLS C1 C2 hS4 hb4 hS2 hv2 ho2
  go_wp2
  go_ret
  exact ⟨rfl, S9.out⟩
theorem hasInt_any (v : Value) (xs : List Int) (d : Int) (w : World) (hv : IntsAt w v xs) : Calls Try.prog 58 #[v, .int .i64 d] w fun e w' => e = .returned (.bool (decide (d ∈ xs))) ∧ w' = w := by
  obtain ⟨A, c, rfl, hm, hcell⟩ := hv
  have HC := hid hcell
  clear hcell
  have hlm : (xs.length : Int) ≤ 1000000000 := by omega
  go_enter Try.func58, Try.ntmps58
  go_wp2
  go_loop [9] (fun i => ∃ k : Nat, k ≤ xs.length ∧ i = .int .i64 k ∧ Hid (∀ j, j < k → xs[j]? ≠ some d)) (fun i => xs.length - (intOf i).toNat)
  case atStart => exact ⟨0, Nat.zero_le _, rfl, hid (fun j hj => by omega)⟩
  case round =>
    obtain ⟨k, hk, rfl, H⟩ := hrel
    by_cases hlt : k < xs.length
    · have hk0 : (0 : Int) ≤ (k : Int) := by omega
      have hk1 : (k : Int) < (xs.length : Int) := by omega
      obtain ⟨x, hx⟩ : ∃ x, xs[k]? = some x := ⟨_, List.getElem?_eq_getElem hlt⟩
      obtain ⟨b, off, rfl, hbb, h1⟩ := HC.out k x hx
      by_cases hq : x = d
      · subst hq
        have E := hid (List.mem_of_getElem? hx)
        clear hx hm
        go_wp2
        go_ret
        exact ⟨ret_bool (by rw [eq_comm, decide_eq_true_iff]; exact E.out), rfl⟩
      · have hq2 : (x == d) = false := by simpa using hq
        have H2 := hid (show ∀ j, j < k + 1 → xs[j]? ≠ some d from fun j hj => by
          by_cases e : j = k
          · rw [e, hx]; exact fun e => hq (Option.some.inj e)
          · exact H.out j (by omega))
        clear hx hq hm
        go_wp2
        go_round
        case rel => exact ⟨k + 1, by omega, by go_num, H2⟩
        case measure => simp [intOf]; omega
    · have he : k = xs.length := by omega
      subst he
      have E := hid (show d ∉ xs from fun h => by
        obtain ⟨i, hi⟩ := List.getElem?_of_mem h
        have hlt' : i < xs.length := by
          rcases Nat.lt_or_ge i xs.length with h' | h'
          · exact h'
          · rw [List.getElem?_eq_none h'] at hi; cases hi
        exact H.out i hlt' hi)
      go_wp2
      go_ret
      exact ⟨ret_bool (by rw [eq_comm, decide_eq_false_iff_not]; exact E.out), rfl⟩
theorem l06Has_any (v : Value) (xs : List Int) (d : Int) (w : World) (hv : IntsAt w v xs) : Calls Try.prog 56 #[v, .int .i64 d] w fun e w' => e = .returned (.bool (decide (d ∈ xs))) ∧ w' = w := by
  obtain ⟨A, c, rfl, hm, hcell⟩ := hv
  have HC := hid hcell
  clear hcell
  have hlm : (xs.length : Int) ≤ 1000000000 := by omega
  go_enter Try.func56, Try.ntmps56
  go_wp2
  go_loop [5] (fun i => ∃ k : Nat, k ≤ xs.length ∧ i = .int .i64 k ∧ Hid (∀ j, j < k → xs[j]? ≠ some d)) (fun i => xs.length - (intOf i).toNat)
  case atStart => exact ⟨0, Nat.zero_le _, rfl, hid (fun j hj => by omega)⟩
  case round =>
    obtain ⟨k, hk, rfl, H⟩ := hrel
    by_cases hlt : k < xs.length
    · have hk0 : (0 : Int) ≤ (k : Int) := by omega
      have hk1 : (k : Int) < (xs.length : Int) := by omega
      obtain ⟨x, hx⟩ : ∃ x, xs[k]? = some x := ⟨_, List.getElem?_eq_getElem hlt⟩
      obtain ⟨b, off, rfl, hbb, h1⟩ := HC.out k x hx
      by_cases hq : x = d
      · subst hq
        have E := hid (List.mem_of_getElem? hx)
        clear hx hm
        go_wp2
        go_ret
        exact ⟨ret_bool (by rw [eq_comm, decide_eq_true_iff]; exact E.out), rfl⟩
      · have hq2 : (x == d) = false := by simpa using hq
        have H2 := hid (show ∀ j, j < k + 1 → xs[j]? ≠ some d from fun j hj => by
          by_cases e : j = k
          · rw [e, hx]; exact fun e => hq (Option.some.inj e)
          · exact H.out j (by omega))
        clear hx hq hm
        go_wp2
        go_round
        case rel => exact ⟨k + 1, by omega, by go_num, H2⟩
        case measure => simp [intOf]; omega
    · have he : k = xs.length := by omega
      subst he
      have E := hid (show d ∉ xs from fun h => by
        obtain ⟨i, hi⟩ := List.getElem?_of_mem h
        have hlt' : i < xs.length := by
          rcases Nat.lt_or_ge i xs.length with h' | h'
          · exact h'
          · rw [List.getElem?_eq_none h'] at hi; cases hi
        exact H.out i hlt' hi)
      go_wp2
      go_ret
      exact ⟨ret_bool (by rw [eq_comm, decide_eq_false_iff_not]; exact E.out), rfl⟩
theorem sSW_any (vn vl : Value) (ns ls : List (Int × Int)) (d x : Int) (w : World) (hn : PairsAt w vn ns) (hl : PairsAt w vl ls) (hbig : ls.length ≤ 1048576) : Calls Try.prog 19 #[.agg #[vn, vl], .int .i64 d, .int .i64 x] w fun e w' => e = .returned (.bool (swF ns ls d x)) ∧ Below w.heap.size w w' := by
  have s0 : Below w.heap.size w (w.alloc (.cells #[vn, vl] 31)) := (Below.refl _ _).alloc (Nat.le_refl _) _
  have HN := hid (hn.below s0)
  have HL := hid (hl.below s0)
  have B0 := hid (BoxV.new w vn vl 31 w.heap.size rfl)
  have S0 := hid s0
  clear s0
  obtain ⟨A, c, rfl, hcn, hm, _⟩ := id hn
  obtain ⟨A', c', rfl, hcl, hm', _⟩ := id hl
  unfold maxLen at hm hm'
  clear hn hl
  have v0 := B0.out.c0
  have v1 := B0.out.c1
  have LE := woF_len ns ls d
  go_enter Try.func19, Try.ntmps19
  go_wp2_with fail
  refine (sWO_any _ _ ns ls d _ HN.out HL.out hbig).mono ?_
  rintro e w2 ⟨v, rfl, ho, hb⟩
  have HB := hid (then_ S0.out hb S0.out.size)
  have HI := hid (ho.at_ (by omega))
  obtain ⟨A9, c9, rfl⟩ := own_form ho
  clear ho hb
  go_wp2_with fail
  refine (l06Has_any _ _ x _ HI.out).mono ?_
  rintro e w3 ⟨rfl, rfl⟩
  go_wp2
  go_ret
  exact ⟨rfl, HB.out⟩
theorem iSW_any (vn vl : Value) (ns ls : List (Int × Int)) (d x : Int) (w : World) (hn : PairsAt w vn ns) (hl : PairsAt w vl ls) (hbig : ls.length ≤ 1048576) : Calls Try.prog 20 #[.agg #[vn, vl], .int .i64 d, .int .i64 x] w fun e w' => e = .returned (.bool (swF ns ls d x)) ∧ Below w.heap.size w w' := by
  have s0 : Below w.heap.size w (w.alloc (.cells #[vn, vl] 31)) := (Below.refl _ _).alloc (Nat.le_refl _) _
  have HN := hid (hn.below s0)
  have HL := hid (hl.below s0)
  have B0 := hid (BoxV.new w vn vl 31 w.heap.size rfl)
  have S0 := hid s0
  clear s0
  obtain ⟨A, c, rfl, hcn, hm, _⟩ := id hn
  obtain ⟨A', c', rfl, hcl, hm', _⟩ := id hl
  unfold maxLen at hm hm'
  clear hn hl
  have v0 := B0.out.c0
  have v1 := B0.out.c1
  have LE := woF_len ns ls d
  cases hd : isDart ns ls x
  · have HD := hid hd
    have E := hid (show swF ns ls d x = false by
      cases hs : swF ns ls d x
      · rfl
      · rw [swF_dart hs] at hd; cases hd)
    clear hd
    go_enter Try.func20, Try.ntmps20
    go_wp2_with fail
    refine (iHasDart_any _ _ ns ls _ _ HN.out HL.out).mono ?_
    rintro e w1 ⟨rfl, hb⟩
    rw [HD.out]
    go_wp2
    go_ret
    exact ⟨ret_bool (by rw [E.out]), then_ S0.out hb S0.out.size⟩
  · have HD := hid hd
    clear hd
    go_enter Try.func20, Try.ntmps20
    go_wp2_with fail
    refine (iHasDart_any _ _ ns ls _ _ HN.out HL.out).mono ?_
    rintro e w1 ⟨rfl, hb⟩
    rw [HD.out]
    have B0 := hid (B0.out.below hb)
    have S0 := hid (then_ S0.out hb S0.out.size)
    have HN := hid (HN.out.below hb)
    have HL := hid (HL.out.below hb)
    clear v0 v1
    have v0 := B0.out.c0
    have v1 := B0.out.c1
    have vlt := B0.out.lt
    clear hb
    go_wp2_with fail
    refine (iWO_any _ _ ns ls d _ HN.out HL.out hbig).mono ?_
    rintro e w2 ⟨v, rfl, ho, hb⟩
    have HB := hid (then_ S0.out hb S0.out.size)
    have HI := hid (ho.at_ (by omega))
    obtain ⟨A9, c9, rfl⟩ := own_form ho
    clear ho hb
    go_wp2_with fail
    refine (hasInt_any _ _ x _ HI.out).mono ?_
    rintro e w3 ⟨rfl, rfl⟩
    go_wp2
    go_ret
    exact ⟨ret_bool (by unfold swF; rfl), HB.out⟩
end Go.Proofs.Ytdhppajfdcfikaa

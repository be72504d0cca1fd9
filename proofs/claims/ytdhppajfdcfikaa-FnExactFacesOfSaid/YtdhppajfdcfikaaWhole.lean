/- What IsWhole, CountParts and CountFaces return, in the program and in the reference. No condition. -/
import Derived.Test.YtdhppajfdcfikaaPartS
import Derived.Test.YtdhppajfdcfikaaMark
import Derived.Test.YtdhppajfdcfikaaHeld
namespace Go.Proofs.Ytdhppajfdcfikaa
open Go.ChangeShapes Go.WideShapes Go.ChangeAt Go.RowKit
set_option maxHeartbeats 2000000
set_option linter.unusedSimpArgs false
set_option linter.unusedVariables false
def wholeB (ns ls : List (Int × Int)) : Bool := winOkB ns ls && (decide (0 < ls.length) && allB ns.length (fun i => lb (nl ls) i == 0))
def cpN (ls : List (Int × Int)) (k : Nat) : Nat := (List.range k).countP fun i => lb (nl ls) i == i
theorem cpN_succ (ls : List (Int × Int)) (k : Nat) : cpN ls (k + 1) = cpN ls k + if lb (nl ls) k = k then 1 else 0 := by
  unfold cpN
  rw [List.range_succ, List.countP_append]
  by_cases h : lb (nl ls) k = k <;> simp [h]
theorem cpN_le (ls : List (Int × Int)) (k : Nat) : cpN ls k ≤ k := by
  unfold cpN; exact Nat.le_trans List.countP_le_length (by simp)
def cpF (ns ls : List (Int × Int)) : Int := if winOkB ns ls = true then (cpN ls ns.length : Int) else 0
def cfF (ns ls : List (Int × Int)) : Int := if winOkB ns ls = true then (ls.length : Int) - (ns.length : Int) + 1 + (cpN ls ns.length : Int) else 0
theorem win_small {ns ls : List (Int × Int)} (h : winOkB ns ls = true) : 1 ≤ ns.length ∧ ns.length ≤ 12 ∧ ls.length ≤ 20 := by
  simp only [winOkB, Bool.and_eq_true, inB, decide_eq_true_iff] at h
  omega
theorem below_nl {ns ls : List (Int × Int)} (h : winOkB ns ls = true) : Below_ ns.length (nl ls) := fun p hp => win_nl h p hp
theorem pt_bit {ns ls : List (Int × Int)} (h : winOkB ns ls = true) {k : Nat} (hk : k < ns.length) (i : Nat) : (bPasses (nl ls) (2 ^ k) ns.length).testBit i = true ↔ lb (nl ls) i = lb (nl ls) k := part_bits (nl ls) ns.length k (below_nl h) hk i
theorem pt_lt {ns ls : List (Int × Int)} (h : winOkB ns ls = true) {k : Nat} (hk : k < ns.length) : bPasses (nl ls) (2 ^ k) ns.length < 2 ^ ns.length :=
  bPasses_lt ns.length (nl ls) (fun p hp => win_nl h p hp) (2 ^ k) (Nat.pow_lt_pow_right (by omega) hk) ns.length
theorem pt_len {ns ls : List (Int × Int)} (h : winOkB ns ls = true) : (decide (((ptF ns ls 0).length : Int) = (ns.length : Int))) = allB ns.length (fun i => lb (nl ls) i == 0) := by
  obtain ⟨h1, h2, h3⟩ := win_small h
  have hz : lb (nl ls) 0 = 0 := by have := lb_le (nl ls) 0; omega
  have e : (ptF ns ls 0).length = ns.length ↔ ∀ i, i < ns.length → (bPasses (nl ls) (2 ^ 0) ns.length).testBit i = true := mem_all _ _ h2 (pt_lt h h1)
  rw [Bool.eq_iff_iff, decide_eq_true_iff]
  constructor
  · intro hh
    unfold allB
    rw [List.all_eq_true]
    intro i hi
    have := (pt_bit h h1 i).1 (e.1 (by omega) i (by simpa using hi))
    rw [this, hz]; rfl
  · intro hh
    have : (ptF ns ls 0).length = ns.length := e.2 fun i hi => (pt_bit h h1 i).2 (by
      have := allB_get hh hi
      rw [hz]; simpa using this)
    omega
theorem pt_head {ns ls : List (Int × Int)} (h : winOkB ns ls = true) {k : Nat} (hk : k < ns.length) : ∃ m : Nat, m ≤ k ∧ (ptF ns ls k)[0]? = some (m : Int) ∧ (m = k ↔ lb (nl ls) k = k) := by
  obtain ⟨h1, h2, h3⟩ := win_small h
  obtain ⟨m, a, b, c, d⟩ := mem_head (bPasses (nl ls) (2 ^ k) ns.length) k (by omega) ((pt_bit h hk k).2 rfl)
  refine ⟨m, a, d, ?_⟩
  have hl := least_law (nl ls) ns.length k (below_nl h) hk
  have e : (2 ^ k).testBit = fun i => i == k := by
    funext i
    rw [Nat.testBit_two_pow, Bool.eq_iff_iff, beq_iff_eq, decide_eq_true_iff]; exact eq_comm
  have eb : ∀ i, (bPasses (nl ls) (2 ^ k) ns.length).testBit i = inPasses (nl ls) (fun i => i == k) ns.length i := fun i => by rw [bPasses_bit, e]
  constructor
  · rintro rfl
    exact hl.1 fun i hi => by rw [← eb]; exact c i hi
  · intro hh
    have := hl.2 hh
    rcases Nat.lt_or_ge m k with hlt | hge
    · have hm := this m hlt
      rw [← eb, b] at hm; cases hm
    · omega
theorem mem_len12 (s : Nat) : (mem s 12).length ≤ 12 := mem_len s 12
theorem iWhole_any (vn vl : Value) (ns ls : List (Int × Int)) (w : World) (hn : PairsAt w vn ns) (hl : PairsAt w vl ls) : Calls Try.prog 49 #[.agg #[vn, vl]] w fun e w' => e = .returned (.bool (wholeB ns ls)) ∧ Below w.heap.size w w' := by
  have s0 : Below w.heap.size w (w.alloc (.cells #[vn, vl] 31)) := (Below.refl _ _).alloc (Nat.le_refl _) _
  have HN := hid (hn.below s0)
  have HL := hid (hl.below s0)
  have B0 := hid (BoxV.new w vn vl 31 w.heap.size rfl)
  have S0 := hid s0
  clear s0
  obtain ⟨A, c, rfl, hcn, hm, _⟩ := id hn
  obtain ⟨A', c', rfl, hcl, hm', _⟩ := id hl
  unfold maxLen at hm hm'
  clear hn hl
  have v0 := B0.out.c0
  have v1 := B0.out.c1
  cases hw : winOkB ns ls
  · have HW := hid hw
    have E := hid (show wholeB ns ls = false by simp [wholeB, hw])
    clear hw
    go_enter Try.func49, Try.ntmps49
    go_wp2_with fail
    refine wh_start (S := (fun w' => w'.cell? ⟨w.heap.size, 0, none⟩ = some (.slice A ns.length c) ∧ w'.cell? ⟨w.heap.size, 1, none⟩ = some (.slice A' ls.length c'))) (by kernel_rfl) ⟨v0, v1⟩ ?_
    refine wh_take (i := 0) (v := ?_) rfl (by kernel_rfl) (by kernel_rfl) (by kernel_rfl) (fun _ _ _ h => h) (by kernel_rfl) ?_ ?_
    rotate_left
    (focus (intro w hSw; (try dsimp only at hSw); go_simp; try with_reducible rfl))
    simp only [Act.put, List.setIfInBounds_toArray, List.set_cons_zero, List.set_cons_succ, List.getElem_toArray, List.getElem_cons_succ, List.getElem_cons_zero, Nat.reduceAdd]
    refine wh_step (i := 1) rfl (by kernel_rfl) (fun K hK => ?_)
    go_simp
    refine (iWin_any _ _ ns ls _ (by exact PairsAt.drew HN.out) (by exact PairsAt.drew HL.out)).mono ?_
    rintro e w1 ⟨rfl, hb⟩
    have hb := then_ ((Below.refl _ _).drew) hb (Nat.le_refl _)
    have B0 := hid (B0.out.below hb)
    have S0 := hid (then_ S0.out hb S0.out.size)
    have HN := hid (HN.out.below hb)
    have HL := hid (HL.out.below hb)
    clear v0 v1
    have v0 := B0.out.c0
    have v1 := B0.out.c1
    have vlt := B0.out.lt
    clear hb
    rw [HW.out]
    (try dsimp only)
    refine hK.out _ _ ⟨v0, v1⟩ ?_
    clear hK K
    (try simp only [Act.put, List.setIfInBounds_toArray, List.set_cons_zero, List.set_cons_succ, List.getElem_toArray, List.getElem_cons_succ, List.getElem_cons_zero, Nat.reduceAdd])
    refine wh_take (i := 2) (v := ?_) rfl (by kernel_rfl) (by kernel_rfl) (by kernel_rfl) (fun _ _ _ h => h) (by kernel_rfl) ?_ ?_
    rotate_left
    (focus (intro w hSw; (try dsimp only at hSw); go_simp; try with_reducible rfl))
    simp only [Act.put, List.setIfInBounds_toArray, List.set_cons_zero, List.set_cons_succ, List.getElem_toArray, List.getElem_cons_succ, List.getElem_cons_zero, Nat.reduceAdd]
    refine wh_skip (i := 3) rfl (by kernel_rfl) (by kernel_rfl) (by kernel_rfl) (fun _ _ _ h => h) (by kernel_rfl) ?_
    simp only [Act.put, List.setIfInBounds_toArray, List.set_cons_zero, List.set_cons_succ, List.getElem_toArray, List.getElem_cons_succ, List.getElem_cons_zero, Nat.reduceAdd]
    refine wh_skip (i := 4) rfl (by kernel_rfl) (by kernel_rfl) (by kernel_rfl) (fun _ _ _ h => h) (by kernel_rfl) ?_
    simp only [Act.put, List.setIfInBounds_toArray, List.set_cons_zero, List.set_cons_succ, List.getElem_toArray, List.getElem_cons_succ, List.getElem_cons_zero, Nat.reduceAdd]
    refine wh_skip (i := 5) rfl (by kernel_rfl) (by kernel_rfl) (by kernel_rfl) (fun _ _ _ h => h) (by kernel_rfl) ?_
    simp only [Act.put, List.setIfInBounds_toArray, List.set_cons_zero, List.set_cons_succ, List.getElem_toArray, List.getElem_cons_succ, List.getElem_cons_zero, Nat.reduceAdd]
    refine wh_skip (i := 6) rfl (by kernel_rfl) (by kernel_rfl) (by kernel_rfl) (fun _ _ _ h => h) (by kernel_rfl) ?_
    simp only [Act.put, List.setIfInBounds_toArray, List.set_cons_zero, List.set_cons_succ, List.getElem_toArray, List.getElem_cons_succ, List.getElem_cons_zero, Nat.reduceAdd]
    refine wh_take (i := 7) (v := ?_) rfl (by kernel_rfl) (by kernel_rfl) (by kernel_rfl) (fun _ _ _ h => h) (by kernel_rfl) ?_ ?_
    rotate_left
    (focus (intro w hSw; (try dsimp only at hSw); go_simp; try with_reducible rfl))
    simp only [Act.put, List.setIfInBounds_toArray, List.set_cons_zero, List.set_cons_succ, List.getElem_toArray, List.getElem_cons_succ, List.getElem_cons_zero, Nat.reduceAdd]
    refine wh_take (i := 8) (v := ?_) rfl (by kernel_rfl) (by kernel_rfl) (by kernel_rfl) (fun _ _ _ h => h) (by kernel_rfl) ?_ ?_
    rotate_left
    (focus (intro w hSw; (try dsimp only at hSw); go_simp; try with_reducible rfl))
    simp only [Act.put, List.setIfInBounds_toArray, List.set_cons_zero, List.set_cons_succ, List.getElem_toArray, List.getElem_cons_succ, List.getElem_cons_zero, Nat.reduceAdd]
    refine wh_skip (i := 9) rfl (by kernel_rfl) (by kernel_rfl) (by kernel_rfl) (fun _ _ _ h => h) (by kernel_rfl) ?_
    simp only [Act.put, List.setIfInBounds_toArray, List.set_cons_zero, List.set_cons_succ, List.getElem_toArray, List.getElem_cons_succ, List.getElem_cons_zero, Nat.reduceAdd]
    refine wh_skip (i := 10) rfl (by kernel_rfl) (by kernel_rfl) (by kernel_rfl) (fun _ _ _ h => h) (by kernel_rfl) ?_
    simp only [Act.put, List.setIfInBounds_toArray, List.set_cons_zero, List.set_cons_succ, List.getElem_toArray, List.getElem_cons_succ, List.getElem_cons_zero, Nat.reduceAdd]
    refine wh_skip (i := 11) rfl (by kernel_rfl) (by kernel_rfl) (by kernel_rfl) (fun _ _ _ h => h) (by kernel_rfl) ?_
    simp only [Act.put, List.setIfInBounds_toArray, List.set_cons_zero, List.set_cons_succ, List.getElem_toArray, List.getElem_cons_succ, List.getElem_cons_zero, Nat.reduceAdd]
    refine wh_skip (i := 12) rfl (by kernel_rfl) (by kernel_rfl) (by kernel_rfl) (fun _ _ _ h => h) (by kernel_rfl) ?_
    simp only [Act.put, List.setIfInBounds_toArray, List.set_cons_zero, List.set_cons_succ, List.getElem_toArray, List.getElem_cons_succ, List.getElem_cons_zero, Nat.reduceAdd]
    refine wh_skip (i := 13) rfl (by kernel_rfl) (by kernel_rfl) (by kernel_rfl) (fun _ _ _ h => h) (by kernel_rfl) ?_
    simp only [Act.put, List.setIfInBounds_toArray, List.set_cons_zero, List.set_cons_succ, List.getElem_toArray, List.getElem_cons_succ, List.getElem_cons_zero, Nat.reduceAdd]
    refine wh_skip (i := 14) rfl (by kernel_rfl) (by kernel_rfl) (by kernel_rfl) (fun _ _ _ h => h) (by kernel_rfl) ?_
    simp only [Act.put, List.setIfInBounds_toArray, List.set_cons_zero, List.set_cons_succ, List.getElem_toArray, List.getElem_cons_succ, List.getElem_cons_zero, Nat.reduceAdd]
    refine wh_skip (i := 15) rfl (by kernel_rfl) (by kernel_rfl) (by kernel_rfl) (fun _ _ _ h => h) (by kernel_rfl) ?_
    simp only [Act.put, List.setIfInBounds_toArray, List.set_cons_zero, List.set_cons_succ, List.getElem_toArray, List.getElem_cons_succ, List.getElem_cons_zero, Nat.reduceAdd]
    refine wh_take (i := 16) (v := ?_) rfl (by kernel_rfl) (by kernel_rfl) (by kernel_rfl) (fun _ _ _ h => h) (by kernel_rfl) ?_ ?_
    rotate_left
    (focus (intro w hSw; (try dsimp only at hSw); go_simp; try with_reducible rfl))
    simp only [Act.put, List.setIfInBounds_toArray, List.set_cons_zero, List.set_cons_succ, List.getElem_toArray, List.getElem_cons_succ, List.getElem_cons_zero, Nat.reduceAdd]
    refine wh_take (i := 17) (v := ?_) rfl (by kernel_rfl) (by kernel_rfl) (by kernel_rfl) (fun _ _ _ h => h) (by kernel_rfl) ?_ ?_
    rotate_left
    (focus (intro w hSw; (try dsimp only at hSw); go_simp; try with_reducible rfl))
    simp only [Act.put, List.setIfInBounds_toArray, List.set_cons_zero, List.set_cons_succ, List.getElem_toArray, List.getElem_cons_succ, List.getElem_cons_zero, Nat.reduceAdd]
    refine wh_done (by kernel_rfl) ?_
    go_wp2
    go_ret
    exact ⟨ret_bool (by rw [E.out]), S0.out⟩
  by_cases h0 : ls.length = 0
  · have HW := hid hw
    have E := hid (show wholeB ns ls = false by simp [wholeB, h0])
    have hg : decide ((0 : Int) < (ls.length : Int)) = false := by rw [h0]; rfl
    have hg2 : decide (0 < ls.length) = false := by rw [h0]; rfl
    clear hw h0
    go_enter Try.func49, Try.ntmps49
    go_wp2_with fail
    refine wh_start (S := (fun w' => w'.cell? ⟨w.heap.size, 0, none⟩ = some (.slice A ns.length c) ∧ w'.cell? ⟨w.heap.size, 1, none⟩ = some (.slice A' ls.length c'))) (by kernel_rfl) ⟨v0, v1⟩ ?_
    refine wh_take (i := 0) (v := ?_) rfl (by kernel_rfl) (by kernel_rfl) (by kernel_rfl) (fun _ _ _ h => h) (by kernel_rfl) ?_ ?_
    rotate_left
    (focus (intro w hSw; (try dsimp only at hSw); go_simp; try with_reducible rfl))
    simp only [Act.put, List.setIfInBounds_toArray, List.set_cons_zero, List.set_cons_succ, List.getElem_toArray, List.getElem_cons_succ, List.getElem_cons_zero, Nat.reduceAdd]
    refine wh_step (i := 1) rfl (by kernel_rfl) (fun K hK => ?_)
    go_simp
    refine (iWin_any _ _ ns ls _ (by exact PairsAt.drew HN.out) (by exact PairsAt.drew HL.out)).mono ?_
    rintro e w1 ⟨rfl, hb⟩
    have hb := then_ ((Below.refl _ _).drew) hb (Nat.le_refl _)
    have B0 := hid (B0.out.below hb)
    have S0 := hid (then_ S0.out hb S0.out.size)
    have HN := hid (HN.out.below hb)
    have HL := hid (HL.out.below hb)
    clear v0 v1
    have v0 := B0.out.c0
    have v1 := B0.out.c1
    have vlt := B0.out.lt
    clear hb
    rw [HW.out]
    (try dsimp only)
    refine hK.out _ _ ⟨v0, v1⟩ ?_
    clear hK K
    (try simp only [Act.put, List.setIfInBounds_toArray, List.set_cons_zero, List.set_cons_succ, List.getElem_toArray, List.getElem_cons_succ, List.getElem_cons_zero, Nat.reduceAdd])
    refine wh_take (i := 2) (v := ?_) rfl (by kernel_rfl) (by kernel_rfl) (by kernel_rfl) (fun _ _ _ h => h) (by kernel_rfl) ?_ ?_
    rotate_left
    (focus (intro w hSw; (try dsimp only at hSw); go_simp; try with_reducible rfl))
    simp only [Act.put, List.setIfInBounds_toArray, List.set_cons_zero, List.set_cons_succ, List.getElem_toArray, List.getElem_cons_succ, List.getElem_cons_zero, Nat.reduceAdd]
    refine wh_take (i := 3) (v := ?_) rfl (by kernel_rfl) (by kernel_rfl) (by kernel_rfl) (fun _ _ _ h => h) (by kernel_rfl) ?_ ?_
    rotate_left
    (focus (intro w hSw; (try dsimp only at hSw); go_simp; try with_reducible rfl))
    simp only [Act.put, List.setIfInBounds_toArray, List.set_cons_zero, List.set_cons_succ, List.getElem_toArray, List.getElem_cons_succ, List.getElem_cons_zero, Nat.reduceAdd]
    refine wh_take (i := 4) (v := ?_) rfl (by kernel_rfl) (by kernel_rfl) (by kernel_rfl) (fun _ _ _ h => h) (by kernel_rfl) ?_ ?_
    rotate_left
    (focus (intro w hSw; (try dsimp only at hSw); go_simp; try with_reducible rfl))
    simp only [Act.put, List.setIfInBounds_toArray, List.set_cons_zero, List.set_cons_succ, List.getElem_toArray, List.getElem_cons_succ, List.getElem_cons_zero, Nat.reduceAdd]
    refine wh_take (i := 5) (v := ?_) rfl (by kernel_rfl) (by kernel_rfl) (by kernel_rfl) (fun _ _ _ h => h) (by kernel_rfl) ?_ ?_
    rotate_left
    (focus (intro w hSw; (try dsimp only at hSw); go_simp; try with_reducible rfl))
    simp only [Act.put, List.setIfInBounds_toArray, List.set_cons_zero, List.set_cons_succ, List.getElem_toArray, List.getElem_cons_succ, List.getElem_cons_zero, Nat.reduceAdd]
    refine wh_take (i := 6) (v := ?_) rfl (by kernel_rfl) (by kernel_rfl) (by kernel_rfl) (fun _ _ _ h => h) (by kernel_rfl) ?_ ?_
    rotate_left
    (focus (intro w hSw; (try dsimp only at hSw); go_simp; try with_reducible rfl))
    simp only [Act.put, List.setIfInBounds_toArray, List.set_cons_zero, List.set_cons_succ, List.getElem_toArray, List.getElem_cons_succ, List.getElem_cons_zero, Nat.reduceAdd]
    refine wh_take (i := 7) (v := ?_) rfl (by kernel_rfl) (by kernel_rfl) (by kernel_rfl) (fun _ _ _ h => h) (by kernel_rfl) ?_ ?_
    rotate_left
    (focus (intro w hSw; (try dsimp only at hSw); go_simp; try with_reducible rfl))
    simp only [Act.put, List.setIfInBounds_toArray, List.set_cons_zero, List.set_cons_succ, List.getElem_toArray, List.getElem_cons_succ, List.getElem_cons_zero, Nat.reduceAdd]
    refine wh_take (i := 8) (v := ?_) rfl (by kernel_rfl) (by kernel_rfl) (by kernel_rfl) (fun _ _ _ h => h) (by kernel_rfl) ?_ ?_
    rotate_left
    (focus (intro w hSw; (try dsimp only at hSw); go_simp; try with_reducible rfl))
    simp only [Act.put, List.setIfInBounds_toArray, List.set_cons_zero, List.set_cons_succ, List.getElem_toArray, List.getElem_cons_succ, List.getElem_cons_zero, Nat.reduceAdd]
    refine wh_skip (i := 9) rfl (by kernel_rfl) (by kernel_rfl) (by kernel_rfl) (fun _ _ _ h => h) (by kernel_rfl) ?_
    simp only [Act.put, List.setIfInBounds_toArray, List.set_cons_zero, List.set_cons_succ, List.getElem_toArray, List.getElem_cons_succ, List.getElem_cons_zero, Nat.reduceAdd]
    refine wh_skip (i := 10) rfl (by kernel_rfl) (by kernel_rfl) (by kernel_rfl) (fun _ _ _ h => h) (by kernel_rfl) ?_
    simp only [Act.put, List.setIfInBounds_toArray, List.set_cons_zero, List.set_cons_succ, List.getElem_toArray, List.getElem_cons_succ, List.getElem_cons_zero, Nat.reduceAdd]
    refine wh_skip (i := 11) rfl (by kernel_rfl) (by kernel_rfl) (by kernel_rfl) (fun _ _ _ h => h) (by kernel_rfl) ?_
    simp only [Act.put, List.setIfInBounds_toArray, List.set_cons_zero, List.set_cons_succ, List.getElem_toArray, List.getElem_cons_succ, List.getElem_cons_zero, Nat.reduceAdd]
    refine wh_skip (i := 12) rfl (by kernel_rfl) (by kernel_rfl) (by kernel_rfl) (fun _ _ _ h => h) (by kernel_rfl) ?_
    simp only [Act.put, List.setIfInBounds_toArray, List.set_cons_zero, List.set_cons_succ, List.getElem_toArray, List.getElem_cons_succ, List.getElem_cons_zero, Nat.reduceAdd]
    refine wh_skip (i := 13) rfl (by kernel_rfl) (by kernel_rfl) (by kernel_rfl) (fun _ _ _ h => h) (by kernel_rfl) ?_
    simp only [Act.put, List.setIfInBounds_toArray, List.set_cons_zero, List.set_cons_succ, List.getElem_toArray, List.getElem_cons_succ, List.getElem_cons_zero, Nat.reduceAdd]
    refine wh_skip (i := 14) rfl (by kernel_rfl) (by kernel_rfl) (by kernel_rfl) (fun _ _ _ h => h) (by kernel_rfl) ?_
    simp only [Act.put, List.setIfInBounds_toArray, List.set_cons_zero, List.set_cons_succ, List.getElem_toArray, List.getElem_cons_succ, List.getElem_cons_zero, Nat.reduceAdd]
    refine wh_skip (i := 15) rfl (by kernel_rfl) (by kernel_rfl) (by kernel_rfl) (fun _ _ _ h => h) (by kernel_rfl) ?_
    simp only [Act.put, List.setIfInBounds_toArray, List.set_cons_zero, List.set_cons_succ, List.getElem_toArray, List.getElem_cons_succ, List.getElem_cons_zero, Nat.reduceAdd]
    refine wh_take (i := 16) (v := ?_) rfl (by kernel_rfl) (by kernel_rfl) (by kernel_rfl) (fun _ _ _ h => h) (by kernel_rfl) ?_ ?_
    rotate_left
    (focus (intro w hSw; (try dsimp only at hSw); go_simp; try with_reducible rfl))
    simp only [Act.put, List.setIfInBounds_toArray, List.set_cons_zero, List.set_cons_succ, List.getElem_toArray, List.getElem_cons_succ, List.getElem_cons_zero, Nat.reduceAdd]
    refine wh_take (i := 17) (v := ?_) rfl (by kernel_rfl) (by kernel_rfl) (by kernel_rfl) (fun _ _ _ h => h) (by kernel_rfl) ?_ ?_
    rotate_left
    (focus (intro w hSw; (try dsimp only at hSw); go_simp; try with_reducible rfl))
    simp only [Act.put, List.setIfInBounds_toArray, List.set_cons_zero, List.set_cons_succ, List.getElem_toArray, List.getElem_cons_succ, List.getElem_cons_zero, Nat.reduceAdd]
    refine wh_done (by kernel_rfl) ?_
    go_wp2
    go_ret
    exact ⟨ret_bool (by rw [E.out]), S0.out⟩
  · have HW := hid hw
    obtain ⟨n1, n2, n3⟩ := win_small hw
    have PL := hid (pt_len hw)
    have E := hid (show wholeB ns ls = allB ns.length (fun i => lb (nl ls) i == 0) by
      have : 0 < ls.length := by omega
      simp [wholeB, hw, this])
    have hg : decide ((0 : Int) < (ls.length : Int)) = true := by simp; omega
    have hg2 : decide (0 < ls.length) = true := by simp; omega
    clear hw h0
    go_enter Try.func49, Try.ntmps49
    go_wp2_with fail
    refine wh_start (S := (fun w' => w'.cell? ⟨w.heap.size, 0, none⟩ = some (.slice A ns.length c) ∧ w'.cell? ⟨w.heap.size, 1, none⟩ = some (.slice A' ls.length c'))) (by kernel_rfl) ⟨v0, v1⟩ ?_
    refine wh_take (i := 0) (v := ?_) rfl (by kernel_rfl) (by kernel_rfl) (by kernel_rfl) (fun _ _ _ h => h) (by kernel_rfl) ?_ ?_
    rotate_left
    (focus (intro w hSw; (try dsimp only at hSw); go_simp; try with_reducible rfl))
    simp only [Act.put, List.setIfInBounds_toArray, List.set_cons_zero, List.set_cons_succ, List.getElem_toArray, List.getElem_cons_succ, List.getElem_cons_zero, Nat.reduceAdd]
    refine wh_step (i := 1) rfl (by kernel_rfl) (fun K hK => ?_)
    go_simp
    refine (iWin_any _ _ ns ls _ (by exact PairsAt.drew HN.out) (by exact PairsAt.drew HL.out)).mono ?_
    rintro e w1 ⟨rfl, hb⟩
    have hb := then_ ((Below.refl _ _).drew) hb (Nat.le_refl _)
    have B0 := hid (B0.out.below hb)
    have S0 := hid (then_ S0.out hb S0.out.size)
    have HN := hid (HN.out.below hb)
    have HL := hid (HL.out.below hb)
    clear v0 v1
    have v0 := B0.out.c0
    have v1 := B0.out.c1
    have vlt := B0.out.lt
    clear hb
    rw [HW.out]
    (try dsimp only)
    refine hK.out _ _ ⟨v0, v1⟩ ?_
    clear hK K
    (try simp only [Act.put, List.setIfInBounds_toArray, List.set_cons_zero, List.set_cons_succ, List.getElem_toArray, List.getElem_cons_succ, List.getElem_cons_zero, Nat.reduceAdd])
    refine wh_take (i := 2) (v := ?_) rfl (by kernel_rfl) (by kernel_rfl) (by kernel_rfl) (fun _ _ _ h => h) (by kernel_rfl) ?_ ?_
    rotate_left
    (focus (intro w hSw; (try dsimp only at hSw); go_simp; try with_reducible rfl))
    simp only [Act.put, List.setIfInBounds_toArray, List.set_cons_zero, List.set_cons_succ, List.getElem_toArray, List.getElem_cons_succ, List.getElem_cons_zero, Nat.reduceAdd]
    refine wh_take (i := 3) (v := ?_) rfl (by kernel_rfl) (by kernel_rfl) (by kernel_rfl) (fun _ _ _ h => h) (by kernel_rfl) ?_ ?_
    rotate_left
    (focus (intro w hSw; (try dsimp only at hSw); go_simp; try with_reducible rfl))
    simp only [Act.put, List.setIfInBounds_toArray, List.set_cons_zero, List.set_cons_succ, List.getElem_toArray, List.getElem_cons_succ, List.getElem_cons_zero, Nat.reduceAdd]
    refine wh_take (i := 4) (v := ?_) rfl (by kernel_rfl) (by kernel_rfl) (by kernel_rfl) (fun _ _ _ h => h) (by kernel_rfl) ?_ ?_
    rotate_left
    (focus (intro w hSw; (try dsimp only at hSw); go_simp; try with_reducible rfl))
    simp only [Act.put, List.setIfInBounds_toArray, List.set_cons_zero, List.set_cons_succ, List.getElem_toArray, List.getElem_cons_succ, List.getElem_cons_zero, Nat.reduceAdd]
    refine wh_take (i := 5) (v := ?_) rfl (by kernel_rfl) (by kernel_rfl) (by kernel_rfl) (fun _ _ _ h => h) (by kernel_rfl) ?_ ?_
    rotate_left
    (focus (intro w hSw; (try dsimp only at hSw); go_simp; try with_reducible rfl))
    simp only [Act.put, List.setIfInBounds_toArray, List.set_cons_zero, List.set_cons_succ, List.getElem_toArray, List.getElem_cons_succ, List.getElem_cons_zero, Nat.reduceAdd]
    refine wh_take (i := 6) (v := ?_) rfl (by kernel_rfl) (by kernel_rfl) (by kernel_rfl) (fun _ _ _ h => h) (by kernel_rfl) ?_ ?_
    rotate_left
    (focus (intro w hSw; (try dsimp only at hSw); go_simp; try with_reducible rfl))
    simp only [Act.put, List.setIfInBounds_toArray, List.set_cons_zero, List.set_cons_succ, List.getElem_toArray, List.getElem_cons_succ, List.getElem_cons_zero, Nat.reduceAdd]
    refine wh_take (i := 7) (v := ?_) rfl (by kernel_rfl) (by kernel_rfl) (by kernel_rfl) (fun _ _ _ h => h) (by kernel_rfl) ?_ ?_
    rotate_left
    (focus (intro w hSw; (try dsimp only at hSw); go_simp; try with_reducible rfl))
    simp only [Act.put, List.setIfInBounds_toArray, List.set_cons_zero, List.set_cons_succ, List.getElem_toArray, List.getElem_cons_succ, List.getElem_cons_zero, Nat.reduceAdd]
    refine wh_take (i := 8) (v := ?_) rfl (by kernel_rfl) (by kernel_rfl) (by kernel_rfl) (fun _ _ _ h => h) (by kernel_rfl) ?_ ?_
    rotate_left
    (focus (intro w hSw; (try dsimp only at hSw); go_simp; try with_reducible rfl))
    simp only [Act.put, List.setIfInBounds_toArray, List.set_cons_zero, List.set_cons_succ, List.getElem_toArray, List.getElem_cons_succ, List.getElem_cons_zero, Nat.reduceAdd]
    refine wh_take (i := 9) (v := ?_) rfl (by kernel_rfl) (by kernel_rfl) (by kernel_rfl) (fun _ _ _ h => h) (by kernel_rfl) ?_ ?_
    rotate_left
    (focus (intro w hSw; (try dsimp only at hSw); go_simp; try with_reducible rfl))
    simp only [Act.put, List.setIfInBounds_toArray, List.set_cons_zero, List.set_cons_succ, List.getElem_toArray, List.getElem_cons_succ, List.getElem_cons_zero, Nat.reduceAdd]
    refine wh_take (i := 12) (v := ?_) rfl (by kernel_rfl) (by kernel_rfl) (by kernel_rfl) (fun _ _ _ h => h) (by kernel_rfl) ?_ ?_
    rotate_left
    (focus (intro w hSw; (try dsimp only at hSw); go_simp; try with_reducible rfl))
    simp only [Act.put, List.setIfInBounds_toArray, List.set_cons_zero, List.set_cons_succ, List.getElem_toArray, List.getElem_cons_succ, List.getElem_cons_zero, Nat.reduceAdd]
    refine wh_take (i := 13) (v := ?_) rfl (by kernel_rfl) (by kernel_rfl) (by kernel_rfl) (fun _ _ _ h => h) (by kernel_rfl) ?_ ?_
    rotate_left
    (focus (intro w hSw; (try dsimp only at hSw); go_simp; try with_reducible rfl))
    simp only [Act.put, List.setIfInBounds_toArray, List.set_cons_zero, List.set_cons_succ, List.getElem_toArray, List.getElem_cons_succ, List.getElem_cons_zero, Nat.reduceAdd]
    refine wh_take (i := 14) (v := ?_) rfl (by kernel_rfl) (by kernel_rfl) (by kernel_rfl) (fun _ _ _ h => h) (by kernel_rfl) ?_ ?_
    rotate_left
    (focus (intro w hSw; (try dsimp only at hSw); go_simp; try with_reducible rfl))
    simp only [Act.put, List.setIfInBounds_toArray, List.set_cons_zero, List.set_cons_succ, List.getElem_toArray, List.getElem_cons_succ, List.getElem_cons_zero, Nat.reduceAdd]
    refine wh_step (i := 10) rfl (by kernel_rfl) (fun K hK => ?_)
    go_simp
    refine (partOf_any _ _ ns ls 0 _ HN.out HL.out HW.out (by omega)).mono ?_
    rintro e w2 ⟨v, rfl, ho, hb⟩
    obtain ⟨A9, c9, rfl⟩ := own_form ho
    clear ho
    have B0 := hid (B0.out.below hb)
    have S0 := hid (then_ S0.out hb S0.out.size)
    have HN := hid (HN.out.below hb)
    have HL := hid (HL.out.below hb)
    clear v0 v1
    have v0 := B0.out.c0
    have v1 := B0.out.c1
    have vlt := B0.out.lt
    clear hb
    (try dsimp only)
    refine hK.out _ _ ⟨v0, v1⟩ ?_
    clear hK K
    (try simp only [Act.put, List.setIfInBounds_toArray, List.set_cons_zero, List.set_cons_succ, List.getElem_toArray, List.getElem_cons_succ, List.getElem_cons_zero, Nat.reduceAdd])
    refine wh_take (i := 11) (v := ?_) rfl (by kernel_rfl) (by kernel_rfl) (by kernel_rfl) (fun _ _ _ h => h) (by kernel_rfl) ?_ ?_
    rotate_left
    (focus (intro w hSw; (try dsimp only at hSw); go_simp; try with_reducible rfl))
    simp only [Act.put, List.setIfInBounds_toArray, List.set_cons_zero, List.set_cons_succ, List.getElem_toArray, List.getElem_cons_succ, List.getElem_cons_zero, Nat.reduceAdd]
    refine wh_take (i := 15) (v := ?_) rfl (by kernel_rfl) (by kernel_rfl) (by kernel_rfl) (fun _ _ _ h => h) (by kernel_rfl) ?_ ?_
    rotate_left
    (focus (intro w hSw; (try dsimp only at hSw); go_simp; try with_reducible rfl))
    simp only [Act.put, List.setIfInBounds_toArray, List.set_cons_zero, List.set_cons_succ, List.getElem_toArray, List.getElem_cons_succ, List.getElem_cons_zero, Nat.reduceAdd]
    refine wh_take (i := 16) (v := ?_) rfl (by kernel_rfl) (by kernel_rfl) (by kernel_rfl) (fun _ _ _ h => h) (by kernel_rfl) ?_ ?_
    rotate_left
    (focus (intro w hSw; (try dsimp only at hSw); go_simp; try with_reducible rfl))
    simp only [Act.put, List.setIfInBounds_toArray, List.set_cons_zero, List.set_cons_succ, List.getElem_toArray, List.getElem_cons_succ, List.getElem_cons_zero, Nat.reduceAdd]
    refine wh_take (i := 17) (v := ?_) rfl (by kernel_rfl) (by kernel_rfl) (by kernel_rfl) (fun _ _ _ h => h) (by kernel_rfl) ?_ ?_
    rotate_left
    (focus (intro w hSw; (try dsimp only at hSw); go_simp; try with_reducible rfl))
    simp only [Act.put, List.setIfInBounds_toArray, List.set_cons_zero, List.set_cons_succ, List.getElem_toArray, List.getElem_cons_succ, List.getElem_cons_zero, Nat.reduceAdd]
    refine wh_done (by kernel_rfl) ?_
    go_wp2
    go_ret
    exact ⟨ret_bool (by rw [E.out, ← PL.out, Bool.eq_iff_iff]; simp), S0.out⟩
theorem sWhole_any (vn vl : Value) (ns ls : List (Int × Int)) (w : World) (hn : PairsAt w vn ns) (hl : PairsAt w vl ls) : Calls Try.prog 70 #[.agg #[vn, vl]] w fun e w' => e = .returned (.bool (wholeB ns ls)) ∧ Below w.heap.size w w' := by
  have s0 : Below w.heap.size w (w.alloc (.cells #[vn, vl] 31)) := (Below.refl _ _).alloc (Nat.le_refl _) _
  have HN := hid (hn.below s0)
  have HL := hid (hl.below s0)
  have B0 := hid (BoxV.new w vn vl 31 w.heap.size rfl)
  have S0 := hid s0
  clear s0
  obtain ⟨A, c, rfl, hcn, hm, _⟩ := id hn
  obtain ⟨A', c', rfl, hcl, hm', _⟩ := id hl
  unfold maxLen at hm hm'
  clear hn hl
  have v0 := B0.out.c0
  have v1 := B0.out.c1
  cases hw : winOkB ns ls
  · have HW := hid hw
    have E := hid (show wholeB ns ls = false by simp [wholeB, hw])
    clear hw
    go_enter Try.func70, Try.ntmps70
    go_wp2_with fail
    refine (sWin_any _ _ ns ls _ HN.out HL.out).mono ?_
    rintro e w1 ⟨rfl, hb⟩
    rw [HW.out]
    go_wp2
    go_ret
    exact ⟨ret_bool (by rw [E.out]), then_ S0.out hb S0.out.size⟩
  by_cases h0 : ls.length = 0
  · have HW := hid hw
    have E := hid (show wholeB ns ls = false by simp [wholeB, h0])
    have HZ := hid (show ((ls.length : Int) == 0) = true by simp [h0])
    clear hw h0
    go_enter Try.func70, Try.ntmps70
    go_wp2_with fail
    refine (sWin_any _ _ ns ls _ HN.out HL.out).mono ?_
    rintro e w1 ⟨rfl, hb⟩
    rw [HW.out]
    have B0 := hid (B0.out.below hb)
    have S0 := hid (then_ S0.out hb S0.out.size)
    have HN := hid (HN.out.below hb)
    have HL := hid (HL.out.below hb)
    clear v0 v1
    have v0 := B0.out.c0
    have v1 := B0.out.c1
    have vlt := B0.out.lt
    clear hb
    have hz := HZ.out
    go_wp2
    go_ret
    exact ⟨ret_bool (by rw [E.out]), S0.out⟩
  · have HW := hid hw
    obtain ⟨n1, n2, n3⟩ := win_small hw
    have E := hid (show wholeB ns ls = allB ns.length (fun i => lb (nl ls) i == 0) by
      have : 0 < ls.length := by omega
      simp [wholeB, hw, this])
    have HZ := hid (show ((ls.length : Int) == 0) = false by rw [beq_eq_false_iff_ne]; omega)
    clear hw h0
    go_enter Try.func70, Try.ntmps70
    go_wp2_with fail
    refine (sWin_any _ _ ns ls _ HN.out HL.out).mono ?_
    rintro e w1 ⟨rfl, hb⟩
    rw [HW.out]
    have B0 := hid (B0.out.below hb)
    have S0 := hid (then_ S0.out hb S0.out.size)
    have HN := hid (HN.out.below hb)
    have HL := hid (HL.out.below hb)
    clear v0 v1
    have v0 := B0.out.c0
    have v1 := B0.out.c1
    have vlt := B0.out.lt
    clear hb
    have hz := HZ.out
    go_wp2_with fail
    refine (sParts_any _ _ ns ls _ HN.out HL.out HW.out).mono ?_
    rintro e w2 ⟨v, rfl, ho, hb⟩
    have P := hid (ho.at_ (by rw [fnL_len]; omega))
    clear ho
    have B0 := hid (B0.out.below hb)
    have S0 := hid (then_ S0.out hb S0.out.size)
    have HN := hid (HN.out.below hb)
    have HL := hid (HL.out.below hb)
    clear v0 v1
    have v0 := B0.out.c0
    have v1 := B0.out.c1
    have vlt := B0.out.lt
    clear hb
    obtain ⟨A9, c9, hv9, _, hcell⟩ := P.out
    rw [fnL_len] at hv9
    subst hv9
    have HC := hid hcell
    clear hcell hz
    go_wp2_with fail
    go_loop [4] (fun i => ∃ k : Nat, k ≤ ns.length ∧ i = .int .i64 k ∧ Hid (allB k (fun i => lb (nl ls) i == 0) = true)) (fun i => ns.length - (intOf i).toNat)
    case atStart => exact ⟨0, Nat.zero_le _, rfl, hid rfl⟩
    case round =>
      obtain ⟨k, hk, rfl, hall⟩ := hrel
      by_cases hlt : k < ns.length
      · obtain ⟨b, off, rfl, hbb, h1⟩ := HC.out k _ (fnL_get _ _ _ hlt)
        have hk0 : (0 : Int) ≤ (k : Int) := by omega
        have hk1 : (k : Int) < (ns.length : Int) := by omega
        by_cases hz : lb (nl ls) k = 0
        · have A2 := hid (show allB (k + 1) (fun i => lb (nl ls) i == 0) = true by rw [allB_succ, hall.out, hz]; rfl)
          rw [hz] at h1
          clear hz
          go_wp2
          go_round
          case rel => exact ⟨k + 1, by omega, by go_num, A2⟩
          case measure => simp [intOf]; omega
        · have A2 := hid (show allB ns.length (fun i => lb (nl ls) i == 0) = false from allB_no hlt (by simpa using hz))
          obtain ⟨x, hx⟩ : ∃ x, x = lb (nl ls) k := ⟨_, rfl⟩
          rw [← hx] at h1 hz
          clear hx
          have hz2 : ((x : Int) != 0) = true := by simp; omega
          clear hz
          go_wp2
          go_ret
          exact ⟨ret_bool (by rw [E.out, A2.out]), S0.out⟩
      · have he : k = ns.length := by omega
        subst he
        go_wp2
        go_ret
        exact ⟨ret_bool (by rw [E.out, hall.out]), S0.out⟩
end Go.Proofs.Ytdhppajfdcfikaa

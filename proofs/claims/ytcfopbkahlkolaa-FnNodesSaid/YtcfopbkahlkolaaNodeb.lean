/- What the program's and the reference's further functions on numbers, nodes and leads return, for all arguments. No condition. -/
import Derived.Test.YtcfopbkahlkolaaNode
namespace Go.Proofs.Ytcfopbkahlkolaa
open Go.ChangeShapes Go.WideShapes Go.ChangeAt Go.RowKit
set_option maxHeartbeats 400000

theorem sShare_any (f t g u : Int) (w : World) : Calls Try.prog 18 #[.agg #[.int .i64 f, .int .i64 t], .agg #[.int .i64 g, .int .i64 u]] w fun e w' => e = .returned (.bool (shareF f t g u)) ∧ Below w.heap.size w w' := by
  go_enter Try.func18, Try.ntmps18
  go_wp2
  all_goals go_ret
  all_goals exact ⟨ret_bool (by unfold shareF; rw [Bool.eq_iff_iff]; simp; try omega), by repeat (first | exact Below.refl _ _ | refine Below.alloc ?_ (by simp; try omega) _)⟩
theorem iShare_any (f t g u : Int) (w : World) : Calls Try.prog 20 #[.agg #[.int .i64 f, .int .i64 t], .agg #[.int .i64 g, .int .i64 u]] w fun e w' => e = .returned (.bool (shareF f t g u)) ∧ Below w.heap.size w w' := by
  go_enter Try.func20, Try.ntmps20
  go_wp2
  all_goals go_ret
  all_goals exact ⟨ret_bool (by unfold shareF; rw [Bool.eq_iff_iff]; simp; try omega), by repeat (first | exact Below.refl _ _ | refine Below.alloc ?_ (by simp; try omega) _)⟩
theorem sOther_any (f t k : Int) (w : World) : Calls Try.prog 27 #[.agg #[.int .i64 f, .int .i64 t], .int .i64 k] w fun e w' => e = .returned (.int .i64 (otherF f t k)) ∧ Below w.heap.size w w' := by
  by_cases h1 : k = f
  · subst h1
    go_enter Try.func27, Try.ntmps27
    go_wp2
    go_ret
    exact ⟨ret_int (by simp [otherF]), by repeat (first | exact Below.refl _ _ | refine Below.alloc ?_ (by simp; try omega) _)⟩
  · have h1' : (k == f) = false := by simpa using h1
    by_cases h2 : k = t
    · subst h2
      go_enter Try.func27, Try.ntmps27
      go_wp2
      go_ret
      exact ⟨ret_int (by simp [otherF, h1]), by repeat (first | exact Below.refl _ _ | refine Below.alloc ?_ (by simp; try omega) _)⟩
    · have h2' : (k == t) = false := by simpa using h2
      go_enter Try.func27, Try.ntmps27
      go_wp2
      go_ret
      exact ⟨ret_int (by simp [otherF, h1, h2]), by repeat (first | exact Below.refl _ _ | refine Below.alloc ?_ (by simp; try omega) _)⟩
theorem iOther_any (f t k : Int) (w : World) : Calls Try.prog 28 #[.agg #[.int .i64 f, .int .i64 t], .int .i64 k] w fun e w' => e = .returned (.int .i64 (otherF f t k)) ∧ Below w.heap.size w w' := by
  by_cases h1 : k = f
  · subst h1
    go_enter Try.func28, Try.ntmps28
    go_wp2
    go_ret
    exact ⟨ret_int (by simp [otherF]), by repeat (first | exact Below.refl _ _ | refine Below.alloc ?_ (by simp; try omega) _)⟩
  · have h1' : (k == f) = false := by simpa using h1
    by_cases h2 : k = t
    · subst h2
      go_enter Try.func28, Try.ntmps28
      go_wp2
      go_ret
      exact ⟨ret_int (by simp [otherF, h1]), by repeat (first | exact Below.refl _ _ | refine Below.alloc ?_ (by simp; try omega) _)⟩
    · have h2' : (k == t) = false := by simpa using h2
      go_enter Try.func28, Try.ntmps28
      go_wp2
      go_ret
      exact ⟨ret_int (by simp [otherF, h1, h2]), by repeat (first | exact Below.refl _ _ | refine Below.alloc ?_ (by simp; try omega) _)⟩
theorem sHalf_any (ax ay bx by' : Int) (w : World) : Calls Try.prog 25 #[.agg #[.int .i64 ax, .int .i64 ay], .agg #[.int .i64 bx, .int .i64 by']] w fun e w' => e = .returned (.int .i64 (half ax ay bx by')) ∧ Below w.heap.size w w' := by
  go_enter Try.func25, Try.ntmps25
  go_wp2
  all_goals go_ret
  all_goals exact ⟨ret_int (by unfold half; repeat' split <;> omega), by repeat (first | exact Below.refl _ _ | refine Below.alloc ?_ (by simp; try omega) _)⟩
theorem iHalf_any (ax ay bx by' : Int) (w : World) : Calls Try.prog 26 #[.agg #[.int .i64 ax, .int .i64 ay], .agg #[.int .i64 bx, .int .i64 by']] w fun e w' => e = .returned (.int .i64 (half ax ay bx by')) ∧ Below w.heap.size w w' := by
  go_enter Try.func26, Try.ntmps26
  go_wp2
  all_goals go_ret
  all_goals exact ⟨ret_int (by unfold half; repeat' split <;> omega), by repeat (first | exact Below.refl _ _ | refine Below.alloc ?_ (by simp; try omega) _)⟩
theorem sClamp_any (n lo hi : Int) (w : World) : Calls Try.prog 23 #[.int .i64 n, .int .i64 lo, .int .i64 hi] w fun e w' => e = .returned (.int .i64 (clampF n lo hi)) ∧ w = w' := by
  go_enter Try.func23, Try.ntmps23
  go_wp2
  all_goals go_ret
  all_goals exact ⟨ret_int (by unfold clampF; repeat' split <;> omega), rfl⟩
theorem iClamp_any (n lo hi : Int) (w : World) : Calls Try.prog 24 #[.int .i64 n, .int .i64 lo, .int .i64 hi] w fun e w' => e = .returned (.int .i64 (clampF n lo hi)) ∧ w = w' := by
  go_enter Try.func24, Try.ntmps24
  go_wp2
  all_goals go_ret
  all_goals exact ⟨ret_int (by unfold clampF; repeat' split <;> omega), rfl⟩
theorem xor1 (d : Int) (h0 : 0 ≤ d) (h1 : d ≤ 1000) : bits .xor .i64 d 1 = if d % 2 = 0 then d + 1 else d - 1 := by
  have : ∀ k : Fin 1001, bits .xor .i64 (k.val : Int) 1 = if (k.val : Int) % 2 = 0 then (k.val : Int) + 1 else (k.val : Int) - 1 := by decide +kernel
  have := this ⟨d.toNat, by omega⟩
  rw [show ((d.toNat : Nat) : Int) = d by omega] at this
  exact this
theorem sTwin_any (d : Int) (w : World) : Calls Try.prog 21 #[.int .i64 d] w fun e w' => e = .returned (.int .i64 (twinF d)) ∧ w = w' := by
  go_enter Try.func21, Try.ntmps21
  cases h : inB d 0 39
  all_goals
    go_wp2_with (go_at_call 39; refine (l01In_any _ _ _ _).mono ?_; rintro e w' ⟨rfl, rfl⟩)
    go_ret
  · exact ⟨ret_int (by simp [twinF, h]), rfl⟩
  · have hd : 0 ≤ d ∧ d ≤ 39 := by simpa [inB] using h
    exact ⟨ret_int (by rw [xor1 d hd.1 (by omega)]; simp [twinF, h]), rfl⟩
theorem iTwin_any (d : Int) (w : World) : Calls Try.prog 22 #[.int .i64 d] w fun e w' => e = .returned (.int .i64 (twinF d)) ∧ w = w' := by
  go_enter Try.func22, Try.ntmps22
  cases h : inB d 0 39
  all_goals
    go_wp2_with (go_at_call 40; refine (within_any _ _ _ _).mono ?_; rintro e w' ⟨rfl, rfl⟩)
    go_ret
  · exact ⟨ret_int (by simp [twinF, h]), rfl⟩
  · have hd : 0 ≤ d ∧ d ≤ 39 := by simpa [inB] using h
    exact ⟨ret_int (by rw [xor1 d hd.1 (by omega)]; simp [twinF, h]), rfl⟩
theorem lensq_wrap (ax ay bx by' : Int) : (ax - bx) * (ax - bx) + (ay - by') * (ay - by') = (bx - ax) * (bx - ax) + (by' - ay) * (by' - ay) := by
  rw [show ax - bx = -(bx - ax) by omega, show ay - by' = -(by' - ay) by omega, Int.neg_mul_neg, Int.neg_mul_neg]
theorem iLen_any (ax ay bx by' : Int) (w : World) : Calls Try.prog 30 #[.agg #[.int .i64 ax, .int .i64 ay], .agg #[.int .i64 bx, .int .i64 by']] w fun e w' => e = .returned (.int .i64 (lenSq ax ay bx by')) ∧ Below w.heap.size w w' := by
  go_enter Try.func30, Try.ntmps30
  cases h : okAll [(ax, ay), (bx, by')]
  all_goals
    go_wp2_with fail
    refine (nodesOk_any _ [(ax, ay), (bx, by')] _ (pairs_new _ _ _ _ _ _ (by simp) rfl rfl)).mono ?_
    rintro e w' ⟨rfl, hb1⟩
    rw [h]
  · go_wp2
    go_ret
    refine ⟨ret_int (by simp [lenSq, h]), ?_⟩
    exact (((Below.refl _ _).alloc (Nat.le_refl _) _).alloc (by simp) _).alloc (by simp; omega) _ |>.trans (hb1.mono (by simp; omega))
  · obtain ⟨hc1, hf1⟩ := bcell hb1
    obtain ⟨⟨_, _⟩, ⟨_, _⟩, ⟨_, _⟩, ⟨_, _⟩⟩ := ok2 h
    have p1 := prod_bd (a := ax - bx) (b := ax - bx) (m := 20) (n := 20) (by omega) (by omega) (by omega)
    have p2 := prod_bd (a := ay - by') (b := ay - by') (m := 20) (n := 20) (by omega) (by omega) (by omega)
    have HE := hid (lensq_wrap ax ay bx by')
    go_wp2
    go_ret
    refine ⟨ret_int (by rw [HE.out]; simp [lenSq, h]), ?_⟩
    exact (((Below.refl _ _).alloc (Nat.le_refl _) _).alloc (by simp) _).alloc (by simp; omega) _ |>.trans (hb1.mono (by simp; omega))
theorem okAll2 (a b : Int × Int) : okAll [a, b] = (nodeOkB a.1 a.2 && nodeOkB b.1 b.2) := by simp [okAll]
theorem okAll3 (a b c : Int × Int) : okAll [a, b, c] = (nodeOkB a.1 a.2 && (nodeOkB b.1 b.2 && nodeOkB c.1 c.2)) := by simp [okAll]
theorem sLen_any (ax ay bx by' : Int) (w : World) : Calls Try.prog 29 #[.agg #[.int .i64 ax, .int .i64 ay], .agg #[.int .i64 bx, .int .i64 by']] w fun e w' => e = .returned (.int .i64 (lenSq ax ay bx by')) ∧ Below w.heap.size w w' := by
  cases h1 : nodeOkB ax ay
  · go_enter Try.func29, Try.ntmps29
    go_wp2_with fail
    refine (sNodeOk_any _ _ _).mono ?_
    rintro e w' ⟨rfl, hb1⟩
    rw [h1]
    go_wp2
    go_ret
    exact ⟨ret_int (by simp [lenSq, okAll2, h1]), ((((Below.refl _ _).alloc (Nat.le_refl _) _).alloc (by simp) _)).trans (hb1.mono (by simp; omega))⟩
  · cases h2 : nodeOkB bx by'
    all_goals
      go_enter Try.func29, Try.ntmps29
      go_wp2_with fail
      refine (sNodeOk_any _ _ _).mono ?_
      rintro e w1 ⟨rfl, hb1⟩
      rw [h1]
      obtain ⟨hc1, hf1⟩ := bcell hb1
      have z1 : w.heap.size < w1.heap.size ∧ w.heap.size + 1 < w1.heap.size := by have := hb1.size; simp at this; omega
      obtain ⟨z1a, z1b⟩ := z1
      go_wp2_with fail
      refine (sNodeOk_any _ _ _).mono ?_
      rintro e w2 ⟨rfl, hb2⟩
      rw [h2]
      obtain ⟨hc2, hf2⟩ := bcell hb2
    · go_wp2
      go_ret
      exact ⟨ret_int (by simp [lenSq, okAll2, h1, h2]), (((((Below.refl _ _).alloc (Nat.le_refl _) _).alloc (by simp) _)).trans (hb1.mono (by simp; omega))).trans (hb2.mono (by omega))⟩
    · have h : okAll [(ax, ay), (bx, by')] = true := by simp [okAll2, h1, h2]
      obtain ⟨⟨_, _⟩, ⟨_, _⟩, ⟨_, _⟩, ⟨_, _⟩⟩ := ok2 h
      have p1 := prod_bd (a := bx - ax) (b := bx - ax) (m := 20) (n := 20) (by omega) (by omega) (by omega)
      have p2 := prod_bd (a := by' - ay) (b := by' - ay) (m := 20) (n := 20) (by omega) (by omega) (by omega)
      go_wp2
      go_ret
      exact ⟨ret_int (by simp [lenSq, h]), (((((Below.refl _ _).alloc (Nat.le_refl _) _).alloc (by simp) _)).trans (hb1.mono (by simp; omega))).trans (hb2.mono (by omega))⟩
end Go.Proofs.Ytcfopbkahlkolaa

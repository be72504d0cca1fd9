/- What the program's and the reference's functions on numbers, nodes and leads return, for all arguments, each with a world that at most grew. No condition. -/
import Derived.Test.YtbijbohkpjnjnaaPure
import Derived.Test.YtbijbohkpjnjnaaRows
namespace Go.Proofs.Ytbijbohkpjnjnaa
open Go.ChangeShapes Go.WideShapes Go.ChangeAt Go.RowKit
set_option maxHeartbeats 400000

theorem within_any (n lo hi : Int) (w : World) : Calls Try.prog 30 #[.int .i64 n, .int .i64 lo, .int .i64 hi] w fun e w' => e = .returned (.bool (inB n lo hi)) ∧ w = w' := by
  go_enter Try.func30, Try.ntmps30
  go_wp2
  all_goals go_ret
  all_goals exact ⟨ret_bool (by unfold inB; rw [Bool.eq_iff_iff]; simp; try omega), rfl⟩
theorem l01In_any (n lo hi : Int) (w : World) : Calls Try.prog 34 #[.int .i64 n, .int .i64 lo, .int .i64 hi] w fun e w' => e = .returned (.bool (inB n lo hi)) ∧ w = w' := by
  go_enter Try.func34, Try.ntmps34
  go_wp2
  all_goals go_ret
  all_goals exact ⟨ret_bool (by unfold inB; rw [Bool.eq_iff_iff]; simp; try omega), rfl⟩
theorem sNodeOk_any (x y : Int) (w : World) : Calls Try.prog 35 #[.agg #[.int .i64 x, .int .i64 y]] w fun e w' => e = .returned (.bool (nodeOkB x y)) ∧ Below w.heap.size w w' := by
  go_enter Try.func35, Try.ntmps35
  cases h : inB x 0 20
  all_goals
    go_wp2_with (go_at_call 34; refine (l01In_any _ _ _ _).mono ?_; rintro e w' ⟨rfl, rfl⟩)
    go_ret
    exact ⟨ret_bool (by unfold nodeOkB; simp [h]), (Below.refl _ _).alloc (Nat.le_refl _) _⟩
theorem iNodeOk_any (x y : Int) (w : World) : Calls Try.prog 31 #[.agg #[.int .i64 x, .int .i64 y]] w fun e w' => e = .returned (.bool (nodeOkB x y)) ∧ Below w.heap.size w w' := by
  go_enter Try.func31, Try.ntmps31
  cases h : inB x 0 20
  all_goals
    go_wp2_with (go_at_call 30; refine (within_any _ _ _ _).mono ?_; rintro e w' ⟨rfl, rfl⟩)
    go_ret
    exact ⟨ret_bool (by unfold nodeOkB; simp [h]), (Below.refl _ _).alloc (Nat.le_refl _) _⟩
theorem nodesOk_any (v : Value) (ns : List (Int × Int)) (w : World) (hv : PairsAt w v ns) : Calls Try.prog 18 #[v] w fun e w' => e = .returned (.bool (okAll ns)) ∧ Below w.heap.size w w' := by
  obtain ⟨A, c, rfl, hc, hm, hcell⟩ := hv
  unfold maxLen at hm
  have HC := hid hcell
  clear hcell
  go_enter Try.func18, Try.ntmps18
  go_wp2
  go_loopw [7] (fun i wr => ∃ k : Nat, k ≤ ns.length ∧ i = .int .i64 k ∧ okAll (ns.take k) = true ∧ Below w.heap.size w wr) (fun i _ => ns.length - (intOf i).toNat)
  case atStart => exact ⟨0, Nat.zero_le _, rfl, rfl, Below.refl _ _⟩
  case round =>
    obtain ⟨k, hk, rfl, ho, hb⟩ := hrel
    have hbs := hb.size
    by_cases hlt : k < ns.length
    · obtain ⟨⟨x, y⟩, hxy⟩ : ∃ p, ns[k]? = some p := ⟨_, List.getElem?_eq_getElem hlt⟩
      obtain ⟨b, off, rfl, hbb, h1, h2⟩ := HC.out k x y hxy
      have h1' : wr.cell? ⟨b, off + k * 2, none⟩ = some (.int .i64 x) := by rw [hb.cell (p := ⟨b, _, none⟩) hbb]; exact h1
      have h2' : wr.cell? ⟨b, off + k * 2 + 1, none⟩ = some (.int .i64 y) := by rw [hb.cell (p := ⟨b, _, none⟩) hbb]; exact h2
      have HX := hid hxy
      have HO := hid ho
      have HB := hid hb
      clear h1 h2 hxy ho hb
      cases hn : nodeOkB x y
      · go_wp2_with (go_at_call 31; refine (iNodeOk_any _ _ _).mono ?_; rintro e w1 ⟨rfl, hb1⟩)
        go_ret
        refine ⟨ret_bool ?_, ?_⟩
        · exact (okAll_no _ _ _ _ HX.out hn).symm
        · exact (HB.out.alloc hbs _).trans (hb1.mono (by simp; omega))
      · go_wp2_with (go_at_call 31; refine (iNodeOk_any _ _ _).mono ?_; rintro e w1 ⟨rfl, hb1⟩)
        go_roundw
        case rel => exact ⟨k + 1, by omega, by go_num, by rw [okAll_snoc _ _ _ _ HX.out, HO.out, hn]; rfl, (HB.out.alloc hbs _).trans (hb1.mono (by simp; omega))⟩
        case measure => simp [intOf]; omega
    · have he : k = ns.length := by omega
      subst he
      go_wp2
      go_ret
      exact ⟨ret_bool (by rw [List.take_length] at ho; exact ho.symm), hb⟩
theorem iTurnOf_any (ax ay bx by' cx cy : Int) (w : World) : Calls Try.prog 17 #[.agg #[.int .i64 ax, .int .i64 ay], .agg #[.int .i64 bx, .int .i64 by'], .agg #[.int .i64 cx, .int .i64 cy]] w fun e w' => e = .returned (.int .i64 (turnF ax ay bx by' cx cy)) ∧ Below w.heap.size w w' := by
  go_enter Try.func17, Try.ntmps17
  cases h : okAll [(ax, ay), (bx, by'), (cx, cy)]
  all_goals
    go_wp2_with fail
    refine (nodesOk_any _ [(ax, ay), (bx, by'), (cx, cy)] _ (pairs_new _ _ _ _ _ _ (by simp) rfl rfl)).mono ?_
    rintro e w' ⟨rfl, hb1⟩
    rw [h]
  · go_wp2
    go_ret
    refine ⟨ret_int (by simp [turnF, h]), ?_⟩
    exact ((((Below.refl _ _).alloc (Nat.le_refl _) _).alloc (by simp) _).alloc (by simp; omega) _).alloc (by simp; omega) _ |>.trans (hb1.mono (by simp; omega))
  · obtain ⟨hc1, hf1⟩ := bcell hb1
    obtain ⟨⟨_, _⟩, ⟨_, _⟩, ⟨_, _⟩, ⟨_, _⟩, ⟨_, _⟩, ⟨_, _⟩⟩ := ok3 h
    have p1 := prod_bd (a := bx - ax) (b := cy - ay) (m := 20) (n := 20) (by omega) (by omega) (by omega)
    have p2 := prod_bd (a := by' - ay) (b := cx - ax) (m := 20) (n := 20) (by omega) (by omega) (by omega)
    go_wp2
    go_ret
    refine ⟨ret_int (by simp [turnF, h]; rfl), ?_⟩
    exact ((((Below.refl _ _).alloc (Nat.le_refl _) _).alloc (by simp) _).alloc (by simp; omega) _).alloc (by simp; omega) _ |>.trans (hb1.mono (by simp; omega))
end Go.Proofs.Ytbijbohkpjnjnaa

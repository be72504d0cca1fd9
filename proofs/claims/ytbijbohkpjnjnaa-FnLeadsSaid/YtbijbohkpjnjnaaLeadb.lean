/- What LeadOk of the reference returns, for all arguments. No condition. -/
import Derived.Test.YtbijbohkpjnjnaaLead
namespace Go.Proofs.Ytbijbohkpjnjnaa
open Go.ChangeShapes Go.WideShapes Go.ChangeAt Go.RowKit
set_option maxHeartbeats 400000
set_option linter.unusedSimpArgs false
set_option linter.unusedVariables false

theorem sNodeOk_val (x y : Int) (b : Bool) (w : World) (h : nodeOkB x y = b) : Calls Try.prog 35 #[.agg #[.int .i64 x, .int .i64 y]] w fun e w' => e = .returned (.bool b) ∧ Below w.heap.size w w' := by rw [← h]; exact sNodeOk_any x y w
theorem sLeadOk_n1 (v : Value) (ns : List (Int × Int)) (f t : Int) (w : World) (hv : PairsAt w v ns) (h : inB f 0 ((ns.length : Int) - 1) = false) : Calls Try.prog 36 #[v, .agg #[.int .i64 f, .int .i64 t]] w fun e w' => e = .returned (.bool false) ∧ Below w.heap.size w w' := by
  obtain ⟨A, c, rfl, hc, hm, hcell⟩ := hv
  unfold maxLen at hm
  clear hcell
  have hl : (ns.length : Int) ≤ 9223372036854775807 := by omega
  have hl0 : 0 ≤ (ns.length : Int) := by omega
  clear hc hm
  go_enter Try.func36, Try.ntmps36
  go_wp2_with (go_at_call 34; refine (l01In_any _ _ _ _).mono ?_; rintro e w' ⟨rfl, rfl⟩)
  go_ret
  exact ⟨rfl, (Below.refl _ _).alloc (Nat.le_refl _) _⟩
theorem sLeadOk_n2 (v : Value) (ns : List (Int × Int)) (f t : Int) (w : World) (hv : PairsAt w v ns) (h1 : inB f 0 ((ns.length : Int) - 1) = true) (h : inB t 0 ((ns.length : Int) - 1) = false) : Calls Try.prog 36 #[v, .agg #[.int .i64 f, .int .i64 t]] w fun e w' => e = .returned (.bool false) ∧ Below w.heap.size w w' := by
  obtain ⟨A, c, rfl, hc, hm, hcell⟩ := hv
  unfold maxLen at hm
  clear hcell
  have hl : (ns.length : Int) ≤ 9223372036854775807 := by omega
  have hl0 : 0 ≤ (ns.length : Int) := by omega
  clear hc hm
  go_enter Try.func36, Try.ntmps36
  go_wp2_with (go_at_call 34; refine (l01In_any _ _ _ _).mono ?_; rintro e w' ⟨rfl, rfl⟩)
  go_ret
  exact ⟨rfl, (Below.refl _ _).alloc (Nat.le_refl _) _⟩
theorem sLeadOk_n3 (v : Value) (ns : List (Int × Int)) (f t : Int) (w : World) (hv : PairsAt w v ns) (h1 : inB f 0 ((ns.length : Int) - 1) = true) (h2 : inB t 0 ((ns.length : Int) - 1) = true) (h : t ≤ f) : Calls Try.prog 36 #[v, .agg #[.int .i64 f, .int .i64 t]] w fun e w' => e = .returned (.bool false) ∧ Below w.heap.size w w' := by
  obtain ⟨A, c, rfl, hc, hm, hcell⟩ := hv
  unfold maxLen at hm
  clear hcell
  have hl : (ns.length : Int) ≤ 9223372036854775807 := by omega
  have hl0 : 0 ≤ (ns.length : Int) := by omega
  clear hc hm
  go_enter Try.func36, Try.ntmps36
  go_wp2_with (go_at_call 34; refine (l01In_any _ _ _ _).mono ?_; rintro e w' ⟨rfl, rfl⟩)
  go_ret
  exact ⟨rfl, (Below.refl _ _).alloc (Nat.le_refl _) _⟩
theorem sLeadOk_y (v : Value) (ns : List (Int × Int)) (f t : Int) (w : World) (hv : PairsAt w v ns) (h0 : 0 ≤ f) (h1 : f < t) (h2 : t < (ns.length : Int)) (ax ay bx by' : Int) (ha : ns[f.toNat]? = some (ax, ay)) (hb : ns[t.toNat]? = some (bx, by')) : Calls Try.prog 36 #[v, .agg #[.int .i64 f, .int .i64 t]] w fun e w' => e = .returned (.bool (okAll [(ax, ay), (bx, by')] && !eqP ax ay bx by')) ∧ Below w.heap.size w w' := by
  have heq := neq_node
  obtain ⟨A, c, rfl, hc, hm, hcell⟩ := hv
  unfold maxLen at hm
  obtain ⟨b, off, rfl, hlt, ca0, ca1⟩ := hcell _ _ _ ha
  obtain ⟨b', off', hbo, _, cb0, cb1⟩ := hcell _ _ _ hb
  injection hbo with hbo
  injection hbo with hb1 hb2
  subst hb1 hb2
  clear hcell ha hb
  have b0 : Box2 (w.alloc (.cells #[.int .i64 f, .int .i64 t] 30)) w.heap.size f t := Box2.new _ _ _ _ _ rfl
  have l0 := b0.c0
  have l1 := b0.c1
  have m0 := fun p => (b0.mv p).c0
  have m1 := fun p => (b0.mv p).c1
  have hz : b < (w.alloc (.cells #[.int .i64 f, .int .i64 t] 30)).heap.size := by simp; omega
  have ma0 := fun p => cell_mv (w := w.alloc (.cells #[.int .i64 f, .int .i64 t] 30)) hz ((World.cell?_alloc_lt _ _ _ hlt).trans ca0) p
  have ma1 := fun p => cell_mv (w := w.alloc (.cells #[.int .i64 f, .int .i64 t] 30)) hz ((World.cell?_alloc_lt _ _ _ hlt).trans ca1) p
  have mb0 := fun p => cell_mv (w := w.alloc (.cells #[.int .i64 f, .int .i64 t] 30)) hz ((World.cell?_alloc_lt _ _ _ hlt).trans cb0) p
  have mb1 := fun p => cell_mv (w := w.alloc (.cells #[.int .i64 f, .int .i64 t] 30)) hz ((World.cell?_alloc_lt _ _ _ hlt).trans cb1) p
  have i1 : inB f 0 ((ns.length : Int) - 1) = true := by simp [inB]; omega
  have i2 : inB t 0 ((ns.length : Int) - 1) = true := by simp [inB]; omega
  have hf2 : f < (ns.length : Int) := by omega
  have ht0 : 0 ≤ t := by omega
  have hl : (ns.length : Int) ≤ 9223372036854775807 := by omega
  clear hc hm hz ca0 ca1 cb0 cb1
  go_enter Try.func36, Try.ntmps36
  cases k1 : nodeOkB ax ay
  rotate_left
  cases k2 : nodeOkB bx by'
  rotate_left
  all_goals
    go_wp2_with (go_at_call 34; refine (l01In_any _ _ _ _).mono ?_; rintro e w' ⟨rfl, rfl⟩)
    refine wp_region_mv (by kernel_rfl) (by kernel_rfl) ?_
    repeat (go_big_quiet_step ((go_at_call 35; exact calls_mv (sNodeOk_val _ _ _ _ (by assumption)))))
    refine wpQuiet_nil ?_
    intro _ hw'
    obtain ⟨q, hw''⟩ := hw'
    subst hw''
    go_wp2
    go_ret
    exact ⟨by simp [okAll2, *], then_ ((Below.refl _ _).alloc (Nat.le_refl _) _) (below_mv _ q) (by simp)⟩
theorem leadOkB_no (ns : List (Int × Int)) (f t : Int) (h : ¬ (0 ≤ f ∧ f < t ∧ t < (ns.length : Int))) : leadOkB ns f t = false := by
  by_cases h0 : 0 ≤ f
  · by_cases h1 : f < t
    · have h2 : ¬ t < (ns.length : Int) := by omega
      simp [leadOkB, h2]
    · simp [leadOkB, h1]
  · simp [leadOkB, h0]
theorem sLeadOk_any (v : Value) (ns : List (Int × Int)) (f t : Int) (w : World) (hv : PairsAt w v ns) : Calls Try.prog 36 #[v, .agg #[.int .i64 f, .int .i64 t]] w fun e w' => e = .returned (.bool (leadOkB ns f t)) ∧ Below w.heap.size w w' := by
  cases i1 : inB f 0 ((ns.length : Int) - 1)
  · exact (sLeadOk_n1 v ns f t w hv i1).mono fun _ _ ⟨he, hb⟩ => ⟨he.trans (ret_bool (leadOkB_no _ _ _ (by simp [inB] at i1; omega)).symm), hb⟩
  cases i2 : inB t 0 ((ns.length : Int) - 1)
  · exact (sLeadOk_n2 v ns f t w hv i1 i2).mono fun _ _ ⟨he, hb⟩ => ⟨he.trans (ret_bool (leadOkB_no _ _ _ (by simp [inB] at i2; omega)).symm), hb⟩
  by_cases i3 : t ≤ f
  · exact (sLeadOk_n3 v ns f t w hv i1 i2 i3).mono fun _ _ ⟨he, hb⟩ => ⟨he.trans (ret_bool (leadOkB_no _ _ _ (by omega)).symm), hb⟩
  have h0 : 0 ≤ f := by simp [inB] at i1; omega
  have h2 : t < (ns.length : Int) := by simp [inB] at i2; omega
  have h1 : f < t := by omega
  obtain ⟨ax, ay, ha⟩ := get_pair ns f h0 (by omega)
  obtain ⟨bx, by', hb⟩ := get_pair ns t (by omega) h2
  exact (sLeadOk_y v ns f t w hv h0 h1 h2 ax ay bx by' ha hb).mono fun _ _ ⟨he, hb'⟩ => ⟨he.trans (ret_bool (by simp [leadOkB, h0, h1, h2, ha, hb])), hb'⟩
/-- a valid lead: its ends, as they lie in memory -/
theorem lead_ends {ns : List (Int × Int)} {f t : Int} (h : leadOkB ns f t = true) : 0 ≤ f ∧ f < t ∧ t < (ns.length : Int) ∧ ∃ ax ay bx by', ns[f.toNat]? = some (ax, ay) ∧ ns[t.toNat]? = some (bx, by') ∧ okAll [(ax, ay), (bx, by')] = true ∧ eqP ax ay bx by' = false := by
  by_cases hh : 0 ≤ f ∧ f < t ∧ t < (ns.length : Int)
  rotate_left
  · rw [leadOkB_no _ _ _ hh] at h; cases h
  obtain ⟨h0, h1, h2⟩ := hh
  obtain ⟨ax, ay, ha⟩ := get_pair ns f h0 (by omega)
  obtain ⟨bx, by', hb⟩ := get_pair ns t (by omega) h2
  simp [leadOkB, h0, h1, h2, ha, hb] at h
  exact ⟨h0, h1, h2, ax, ay, bx, by', ha, hb, by simpa using h.1, by simpa using h.2⟩
theorem pairs_two {w : World} {v : Value} {ns : List (Int × Int)} (hv : PairsAt w v ns) {i j : Nat} {ax ay bx by' : Int} (ha : ns[i]? = some (ax, ay)) (hb : ns[j]? = some (bx, by')) :
    ∃ b off c, v = .slice (some ⟨b, off, none⟩) ns.length c ∧ b < w.heap.size ∧ w.cell? ⟨b, off + i * 2, none⟩ = some (.int .i64 ax) ∧ w.cell? ⟨b, off + i * 2 + 1, none⟩ = some (.int .i64 ay) ∧ w.cell? ⟨b, off + j * 2, none⟩ = some (.int .i64 bx) ∧ w.cell? ⟨b, off + j * 2 + 1, none⟩ = some (.int .i64 by') := by
  obtain ⟨A, c, rfl, hc, hm, hcell⟩ := hv
  obtain ⟨b, off, rfl, hlt, ca0, ca1⟩ := hcell _ _ _ ha
  obtain ⟨b', off', hbo, _, cb0, cb1⟩ := hcell _ _ _ hb
  injection hbo with hbo
  injection hbo with hb1 hb2
  subst hb1 hb2
  exact ⟨_, _, _, rfl, hlt, ca0, ca1, cb0, cb1⟩
end Go.Proofs.Ytbijbohkpjnjnaa

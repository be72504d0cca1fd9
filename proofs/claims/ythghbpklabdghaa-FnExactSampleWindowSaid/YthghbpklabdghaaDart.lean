/- What LeadBetween, the functions on darts, LeadsAt's count and their like return, in the program and in the reference. No condition. -/
import Derived.Test.YthghbpklabdghaaWinS
namespace Go.Proofs.Ythghbpklabdghaa
open Go.ChangeShapes Go.WideShapes Go.ChangeAt Go.RowKit
set_option maxHeartbeats 1000000
set_option linter.unusedSimpArgs false
set_option linter.unusedVariables false

def lbF (ns ls : List (Int × Int)) (a b : Int) : Int := if winOkB ns ls then idxP ls (min a b) (max a b) else -1
def mn (a b : Int) : Int := min a b
def mx (a b : Int) : Int := max a b
theorem iLB_any (vn vl : Value) (ns ls : List (Int × Int)) (a b : Int) (w : World) (hn : PairsAt w vn ns) (hl : PairsAt w vl ls) : Calls Try.prog 36 #[.agg #[vn, vl], .int .i64 a, .int .i64 b] w fun e w' => e = .returned (.int .i64 (lbF ns ls a b)) ∧ Below w.heap.size w w' := by
  have s0 : Below w.heap.size w (w.alloc (.cells #[vn, vl] 25)) := (Below.refl _ _).alloc (Nat.le_refl _) _
  have HN := hid (hn.below s0)
  have HL := hid (hl.below s0)
  have B0 := hid (BoxV.new w vn vl 25 w.heap.size rfl)
  have S0 := hid s0
  clear s0
  obtain ⟨A, c, rfl, hcn, hm, _⟩ := id hn
  obtain ⟨A', c', rfl, hcl, hm', _⟩ := id hl
  unfold maxLen at hm hm'
  clear hn hl
  have v0 := B0.out.c0
  have v1 := B0.out.c1
  cases hw : winOkB ns ls
  · have HW := hid hw
    go_enter Try.func36, Try.ntmps36
    go_wp2_with fail
    refine (iWin_any _ _ ns ls _ HN.out HL.out).mono ?_
    rintro e w1 ⟨rfl, hb⟩
    rw [HW.out]
    go_wp2
    go_ret
    exact ⟨ret_int (by unfold lbF; rw [HW.out]; rfl), then_ S0.out hb S0.out.size⟩
  · have HW := hid hw
    clear hw
    rcases Int.lt_trichotomy a b with hx | rfl | hx
    all_goals
      go_enter Try.func36, Try.ntmps36
      go_wp2_with fail
      refine (iWin_any _ _ ns ls _ HN.out HL.out).mono ?_
      rintro e w1 ⟨rfl, hb⟩
      rw [HW.out]
      have B0 := hid (B0.out.below hb)
      have S0 := hid (then_ S0.out hb S0.out.size)
      have HN := hid (HN.out.below hb)
      have HL := hid (HL.out.below hb)
      have v0 := B0.out.c0
      have v1 := B0.out.c1
      have vlt := B0.out.lt
      clear hb
      go_wp2_with fail
      refine (indexLead_any _ ls _ _ _ HL.out).mono ?_
      rintro e w2 ⟨rfl, hb⟩
      go_wp2
      go_ret
      refine ⟨ret_int ?_, then_ S0.out hb S0.out.size⟩
      unfold lbF
      rw [HW.out]
    · rw [Int.min_eq_left (Int.le_of_lt hx), Int.max_eq_right (Int.le_of_lt hx)]; rfl
    · rw [Int.min_self, Int.max_self]; rfl
    · rw [Int.min_eq_right (Int.le_of_lt hx), Int.max_eq_left (Int.le_of_lt hx)]; rfl
theorem sLB_no (vn vl : Value) (ns ls : List (Int × Int)) (a b : Int) (w : World) (hn : PairsAt w vn ns) (hl : PairsAt w vl ls) (hw : winOkB ns ls = false) : Calls Try.prog 35 #[.agg #[vn, vl], .int .i64 a, .int .i64 b] w fun e w' => e = .returned (.int .i64 (-1)) ∧ Below w.heap.size w w' := by
  have s0 : Below w.heap.size w (w.alloc (.cells #[vn, vl] 25)) := (Below.refl _ _).alloc (Nat.le_refl _) _
  have HN := hid (hn.below s0)
  have HL := hid (hl.below s0)
  have B0 := hid (BoxV.new w vn vl 25 w.heap.size rfl)
  have S0 := hid s0
  clear s0
  obtain ⟨A, c, rfl, hcn, hm, _⟩ := id hn
  obtain ⟨A', c', rfl, hcl, hm', _⟩ := id hl
  unfold maxLen at hm hm'
  clear hn hl
  have v0 := B0.out.c0
  have v1 := B0.out.c1
  have HW := hid hw
  clear hw
  by_cases h0 : (0 : Int) < (ls.length : Int)
  · go_enter Try.func35, Try.ntmps35
    go_wp2
    refine wp_loop_rounds 1 ?_
    rw [rounds_succ]
    go_wp2_with fail
    refine (sWin_any _ _ ns ls _ HN.out HL.out).mono ?_
    rintro e w1 ⟨rfl, hb⟩
    rw [HW.out]
    go_wp2
    go_ret
    exact ⟨rfl, then_ S0.out hb S0.out.size⟩
  · go_enter Try.func35, Try.ntmps35
    go_wp2
    refine wp_loop_rounds 1 ?_
    rw [rounds_succ]
    go_wp2
    go_ret
    exact ⟨rfl, S0.out⟩
theorem sLB_lt (vn vl : Value) (ns ls : List (Int × Int)) (a b : Int) (w : World) (hn : PairsAt w vn ns) (hl : PairsAt w vl ls) (hw : winOkB ns ls = true) (hx : a < b) : Calls Try.prog 35 #[.agg #[vn, vl], .int .i64 a, .int .i64 b] w fun e w' => e = .returned (.int .i64 (idxP ls a b)) ∧ Below w.heap.size w w' := by
  have s0 : Below w.heap.size w (w.alloc (.cells #[vn, vl] 25)) := (Below.refl _ _).alloc (Nat.le_refl _) _
  have HN := hid (hn.below s0)
  have HL := hid (hl.below s0)
  have B0 := hid (BoxV.new w vn vl 25 w.heap.size rfl)
  have S0 := hid s0
  clear s0
  obtain ⟨A, c, rfl, hcn, hm, _⟩ := id hn
  obtain ⟨A', c', rfl, hcl, hm', _⟩ := id hl
  unfold maxLen at hm hm'
  clear hn hl
  have v0 := B0.out.c0
  have v1 := B0.out.c1
  have HW := hid hw
  clear hw
  have Z0 := hid (Below.refl (w.alloc (.cells #[.slice A ns.length c, .slice A' ls.length c'] 25)).heap.size (w.alloc (.cells #[.slice A ns.length c, .slice A' ls.length c'] 25)))
  have BW := hid B0.out
  have SW := hid S0.out
  have NW := hid HN.out
  have LW := hid HL.out
  go_enter Try.func35, Try.ntmps35
  go_wp2_with fail
  go_loopw [7] (fun i wr => ∃ k : Nat, k ≤ ls.length ∧ i = .int .i64 k ∧ Hid (idxP ls a b = idxAt (ls.drop k) a b k) ∧ Below (w.alloc (.cells #[.slice A ns.length c, .slice A' ls.length c'] 25)).heap.size (w.alloc (.cells #[.slice A ns.length c, .slice A' ls.length c'] 25)) wr) (fun i _ => ls.length - (intOf i).toNat)
  case atStart => exact ⟨0, Nat.zero_le _, rfl, hid rfl, Below.refl _ _⟩
  case round =>
    obtain ⟨k, hk, rfl, hix, hb⟩ := hrel
    clear v0 v1 B0 S0 HN HL
    have S0 := hid (then_ SW.out hb SW.out.size)
    have B0 := hid (BW.out.below hb)
    have HN := hid (NW.out.below hb)
    have HL := hid (LW.out.below hb)
    have HB := hid hb
    clear hb
    have v0 := B0.out.c0
    have v1 := B0.out.c1
    by_cases hlt : k < ls.length
    · obtain ⟨⟨f, t⟩, hft⟩ : ∃ p, ls[k]? = some p := ⟨_, List.getElem?_eq_getElem hlt⟩
      have HF := hid hft
      clear hft
      have hk0 : (0 : Int) ≤ (k : Int) := by omega
      have hk1 : (k : Int) < (ls.length : Int) := by omega
      go_wp2_with fail
      refine (sWin_any _ _ ns ls _ HN.out HL.out).mono ?_
      rintro e w1 ⟨rfl, hb⟩
      rw [HW.out]
      have HB1 := hid (then_ HB.out hb HB.out.size)
      have B0 := hid (B0.out.below hb)
      have S0 := hid (then_ S0.out hb S0.out.size)
      have HN := hid (HN.out.below hb)
      have HL := hid (HL.out.below hb)
      have v0 := B0.out.c0
      have v1 := B0.out.c1
      have vlt := B0.out.lt
      clear hb
      obtain ⟨b1, off, rfl, hbb, h1, h2⟩ := HL.out.at_ HF.out
      by_cases q1 : f = a
      · have q1' : (f == a) = true := by simp [q1]
        have Q1 := hid q1
        clear q1
        by_cases q2 : t = b
        · have q2' : (t == b) = true := by simp [q2]
          have Q2 := hid q2
          clear q2
          go_wp2
          go_ret
          exact ⟨ret_int (by rw [hix.out, drop_cons HF.out]; simp [idxAt, eqP, Q1.out, Q2.out]), S0.out⟩
        · have q2' : (t == b) = false := by simp [q2]
          have Q2 := hid q2
          clear q2
          go_wp2
          go_roundw
          case rel => exact ⟨k + 1, by omega, by go_num, hid (by rw [hix.out, drop_cons HF.out]; have := Q2.out; simp [idxAt, eqP, show ¬ b = t by omega]), HB1.out⟩
          case measure => simp [intOf]; omega
      · have q1' : (f == a) = false := by simp [q1]
        have Q1 := hid q1
        clear q1
        go_wp2
        go_roundw
        case rel => exact ⟨k + 1, by omega, by go_num, hid (by rw [hix.out, drop_cons HF.out]; have := Q1.out; simp [idxAt, eqP, show ¬ a = f by omega]), HB1.out⟩
        case measure => simp [intOf]; omega
    · go_wp2
      go_ret
      exact ⟨ret_int (by rw [hix.out, List.drop_of_length_le (by omega)]; rfl), S0.out⟩
theorem sLB_gt (vn vl : Value) (ns ls : List (Int × Int)) (a b : Int) (w : World) (hn : PairsAt w vn ns) (hl : PairsAt w vl ls) (hw : winOkB ns ls = true) (hx : b < a) : Calls Try.prog 35 #[.agg #[vn, vl], .int .i64 a, .int .i64 b] w fun e w' => e = .returned (.int .i64 (idxP ls b a)) ∧ Below w.heap.size w w' := by
  have s0 : Below w.heap.size w (w.alloc (.cells #[vn, vl] 25)) := (Below.refl _ _).alloc (Nat.le_refl _) _
  have HN := hid (hn.below s0)
  have HL := hid (hl.below s0)
  have B0 := hid (BoxV.new w vn vl 25 w.heap.size rfl)
  have S0 := hid s0
  clear s0
  obtain ⟨A, c, rfl, hcn, hm, _⟩ := id hn
  obtain ⟨A', c', rfl, hcl, hm', _⟩ := id hl
  unfold maxLen at hm hm'
  clear hn hl
  have v0 := B0.out.c0
  have v1 := B0.out.c1
  have HW := hid hw
  clear hw
  have Z0 := hid (Below.refl (w.alloc (.cells #[.slice A ns.length c, .slice A' ls.length c'] 25)).heap.size (w.alloc (.cells #[.slice A ns.length c, .slice A' ls.length c'] 25)))
  have BW := hid B0.out
  have SW := hid S0.out
  have NW := hid HN.out
  have LW := hid HL.out
  go_enter Try.func35, Try.ntmps35
  go_wp2_with fail
  go_loopw [7] (fun i wr => ∃ k : Nat, k ≤ ls.length ∧ i = .int .i64 k ∧ Hid (idxP ls b a = idxAt (ls.drop k) b a k) ∧ Below (w.alloc (.cells #[.slice A ns.length c, .slice A' ls.length c'] 25)).heap.size (w.alloc (.cells #[.slice A ns.length c, .slice A' ls.length c'] 25)) wr) (fun i _ => ls.length - (intOf i).toNat)
  case atStart => exact ⟨0, Nat.zero_le _, rfl, hid rfl, Below.refl _ _⟩
  case round =>
    obtain ⟨k, hk, rfl, hix, hb⟩ := hrel
    clear v0 v1 B0 S0 HN HL
    have S0 := hid (then_ SW.out hb SW.out.size)
    have B0 := hid (BW.out.below hb)
    have HN := hid (NW.out.below hb)
    have HL := hid (LW.out.below hb)
    have HB := hid hb
    clear hb
    have v0 := B0.out.c0
    have v1 := B0.out.c1
    by_cases hlt : k < ls.length
    · obtain ⟨⟨f, t⟩, hft⟩ : ∃ p, ls[k]? = some p := ⟨_, List.getElem?_eq_getElem hlt⟩
      have HF := hid hft
      clear hft
      have hk0 : (0 : Int) ≤ (k : Int) := by omega
      have hk1 : (k : Int) < (ls.length : Int) := by omega
      go_wp2_with fail
      refine (sWin_any _ _ ns ls _ HN.out HL.out).mono ?_
      rintro e w1 ⟨rfl, hb⟩
      rw [HW.out]
      have HB1 := hid (then_ HB.out hb HB.out.size)
      have B0 := hid (B0.out.below hb)
      have S0 := hid (then_ S0.out hb S0.out.size)
      have HN := hid (HN.out.below hb)
      have HL := hid (HL.out.below hb)
      have v0 := B0.out.c0
      have v1 := B0.out.c1
      have vlt := B0.out.lt
      clear hb
      obtain ⟨b1, off, rfl, hbb, h1, h2⟩ := HL.out.at_ HF.out
      by_cases q1 : f = b
      · have q1' : (f == b) = true := by simp [q1]
        have Q1 := hid q1
        clear q1
        by_cases q2 : t = a
        · have q2' : (t == a) = true := by simp [q2]
          have Q2 := hid q2
          clear q2
          go_wp2
          go_ret
          exact ⟨ret_int (by rw [hix.out, drop_cons HF.out]; simp [idxAt, eqP, Q1.out, Q2.out]), S0.out⟩
        · have q2' : (t == a) = false := by simp [q2]
          have Q2 := hid q2
          clear q2
          go_wp2
          go_roundw
          case rel => exact ⟨k + 1, by omega, by go_num, hid (by rw [hix.out, drop_cons HF.out]; have := Q2.out; simp [idxAt, eqP, show ¬ a = t by omega]), HB1.out⟩
          case measure => simp [intOf]; omega
      · have q1' : (f == b) = false := by simp [q1]
        have Q1 := hid q1
        clear q1
        go_wp2
        go_roundw
        case rel => exact ⟨k + 1, by omega, by go_num, hid (by rw [hix.out, drop_cons HF.out]; have := Q1.out; simp [idxAt, eqP, show ¬ b = f by omega]), HB1.out⟩
        case measure => simp [intOf]; omega
    · go_wp2
      go_ret
      exact ⟨ret_int (by rw [hix.out, List.drop_of_length_le (by omega)]; rfl), S0.out⟩
theorem sLB_eq (vn vl : Value) (ns ls : List (Int × Int)) (a b : Int) (w : World) (hn : PairsAt w vn ns) (hl : PairsAt w vl ls) (hw : winOkB ns ls = true) (hx : a = b) : Calls Try.prog 35 #[.agg #[vn, vl], .int .i64 a, .int .i64 b] w fun e w' => e = .returned (.int .i64 (idxP ls a a)) ∧ Below w.heap.size w w' := by
  have s0 : Below w.heap.size w (w.alloc (.cells #[vn, vl] 25)) := (Below.refl _ _).alloc (Nat.le_refl _) _
  have HN := hid (hn.below s0)
  have HL := hid (hl.below s0)
  have B0 := hid (BoxV.new w vn vl 25 w.heap.size rfl)
  have S0 := hid s0
  clear s0
  obtain ⟨A, c, rfl, hcn, hm, _⟩ := id hn
  obtain ⟨A', c', rfl, hcl, hm', _⟩ := id hl
  unfold maxLen at hm hm'
  clear hn hl
  have v0 := B0.out.c0
  have v1 := B0.out.c1
  subst hx
  have HW := hid hw
  clear hw
  have Z0 := hid (Below.refl (w.alloc (.cells #[.slice A ns.length c, .slice A' ls.length c'] 25)).heap.size (w.alloc (.cells #[.slice A ns.length c, .slice A' ls.length c'] 25)))
  have BW := hid B0.out
  have SW := hid S0.out
  have NW := hid HN.out
  have LW := hid HL.out
  go_enter Try.func35, Try.ntmps35
  go_wp2_with fail
  go_loopw [7] (fun i wr => ∃ k : Nat, k ≤ ls.length ∧ i = .int .i64 k ∧ Hid (idxP ls a a = idxAt (ls.drop k) a a k) ∧ Below (w.alloc (.cells #[.slice A ns.length c, .slice A' ls.length c'] 25)).heap.size (w.alloc (.cells #[.slice A ns.length c, .slice A' ls.length c'] 25)) wr) (fun i _ => ls.length - (intOf i).toNat)
  case atStart => exact ⟨0, Nat.zero_le _, rfl, hid rfl, Below.refl _ _⟩
  case round =>
    obtain ⟨k, hk, rfl, hix, hb⟩ := hrel
    clear v0 v1 B0 S0 HN HL
    have S0 := hid (then_ SW.out hb SW.out.size)
    have B0 := hid (BW.out.below hb)
    have HN := hid (NW.out.below hb)
    have HL := hid (LW.out.below hb)
    have HB := hid hb
    clear hb
    have v0 := B0.out.c0
    have v1 := B0.out.c1
    by_cases hlt : k < ls.length
    · obtain ⟨⟨f, t⟩, hft⟩ : ∃ p, ls[k]? = some p := ⟨_, List.getElem?_eq_getElem hlt⟩
      have HF := hid hft
      clear hft
      have hk0 : (0 : Int) ≤ (k : Int) := by omega
      have hk1 : (k : Int) < (ls.length : Int) := by omega
      go_wp2_with fail
      refine (sWin_any _ _ ns ls _ HN.out HL.out).mono ?_
      rintro e w1 ⟨rfl, hb⟩
      rw [HW.out]
      have HB1 := hid (then_ HB.out hb HB.out.size)
      have B0 := hid (B0.out.below hb)
      have S0 := hid (then_ S0.out hb S0.out.size)
      have HN := hid (HN.out.below hb)
      have HL := hid (HL.out.below hb)
      have v0 := B0.out.c0
      have v1 := B0.out.c1
      have vlt := B0.out.lt
      clear hb
      obtain ⟨b1, off, rfl, hbb, h1, h2⟩ := HL.out.at_ HF.out
      by_cases q1 : f = a
      · have q1' : (f == a) = true := by simp [q1]
        have Q1 := hid q1
        clear q1
        by_cases q2 : t = a
        · have q2' : (t == a) = true := by simp [q2]
          have Q2 := hid q2
          clear q2
          go_wp2
          go_ret
          exact ⟨ret_int (by rw [hix.out, drop_cons HF.out]; simp [idxAt, eqP, Q1.out, Q2.out]), S0.out⟩
        · have q2' : (t == a) = false := by simp [q2]
          have Q2 := hid q2
          clear q2
          go_wp2
          go_roundw
          case rel => exact ⟨k + 1, by omega, by go_num, hid (by rw [hix.out, drop_cons HF.out]; have := Q2.out; simp [idxAt, eqP, show ¬ a = t by omega]), HB1.out⟩
          case measure => simp [intOf]; omega
      · have q1' : (f == a) = false := by simp [q1]
        have Q1 := hid q1
        clear q1
        go_wp2
        go_roundw
        case rel => exact ⟨k + 1, by omega, by go_num, hid (by rw [hix.out, drop_cons HF.out]; have := Q1.out; simp [idxAt, eqP, show ¬ a = f by omega]), HB1.out⟩
        case measure => simp [intOf]; omega
    · go_wp2
      go_ret
      exact ⟨ret_int (by rw [hix.out, List.drop_of_length_le (by omega)]; rfl), S0.out⟩
theorem sLB_any (vn vl : Value) (ns ls : List (Int × Int)) (a b : Int) (w : World) (hn : PairsAt w vn ns) (hl : PairsAt w vl ls) : Calls Try.prog 35 #[.agg #[vn, vl], .int .i64 a, .int .i64 b] w fun e w' => e = .returned (.int .i64 (lbF ns ls a b)) ∧ Below w.heap.size w w' := by
  cases hw : winOkB ns ls
  · exact (sLB_no vn vl ns ls a b w hn hl hw).mono fun _ _ h => ⟨h.1.trans (ret_int (by unfold lbF; rw [hw]; rfl)), h.2⟩
  · rcases Int.lt_trichotomy a b with hx | hx | hx
    · exact (sLB_lt vn vl ns ls a b w hn hl hw hx).mono fun _ _ h => ⟨h.1.trans (ret_int (by unfold lbF; rw [hw, Int.min_eq_left (Int.le_of_lt hx), Int.max_eq_right (Int.le_of_lt hx)]; rfl)), h.2⟩
    · exact (sLB_eq vn vl ns ls a b w hn hl hw hx).mono fun _ _ h => ⟨h.1.trans (ret_int (by unfold lbF; rw [hw, ← hx, Int.min_self, Int.max_self]; rfl)), h.2⟩
    · exact (sLB_gt vn vl ns ls a b w hn hl hw hx).mono fun _ _ h => ⟨h.1.trans (ret_int (by unfold lbF; rw [hw, Int.min_eq_right (Int.le_of_lt hx), Int.max_eq_left (Int.le_of_lt hx)]; rfl)), h.2⟩
end Go.Proofs.Ythghbpklabdghaa

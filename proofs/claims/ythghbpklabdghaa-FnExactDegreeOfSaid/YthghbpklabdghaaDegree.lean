/- What DegreeOf returns, in the program and in the reference. No condition. -/
import Derived.Test.YthghbpklabdghaaLeadsAt
namespace Go.Proofs.Ythghbpklabdghaa
open Go.ChangeShapes Go.WideShapes Go.ChangeAt Go.RowKit
set_option maxHeartbeats 1000000
set_option linter.unusedSimpArgs false
set_option linter.unusedVariables false
def dgF (ns ls : List (Int × Int)) (k : Int) : Int := if isNode ns ls k then ((atL ls k ls.length).length : Int) else -1
theorem iDg_any (vn vl : Value) (ns ls : List (Int × Int)) (d : Int) (w : World) (hn : PairsAt w vn ns) (hl : PairsAt w vl ls) : Calls Try.prog 44 #[.agg #[vn, vl], .int .i64 d] w fun e w' => e = .returned (.int .i64 (dgF ns ls d)) ∧ Below w.heap.size w w' := by
  have s0 : Below w.heap.size w (w.alloc (.cells #[vn, vl] 25)) := (Below.refl _ _).alloc (Nat.le_refl _) _
  have HN := hid (hn.below s0)
  have HL := hid (hl.below s0)
  have B0 := hid (BoxV.new w vn vl 25 w.heap.size rfl)
  have S0 := hid s0
  clear s0
  obtain ⟨A, c, rfl, hcn, hm, _⟩ := id hn
  obtain ⟨A', c', rfl, hcl, hm', _⟩ := id hl
  unfold maxLen at hm hm'
  clear hn hl
  have v0 := B0.out.c0
  have v1 := B0.out.c1
  cases hi : isNode ns ls d
  all_goals
    have HI := hid hi
    clear hi
    go_enter Try.func44, Try.ntmps44
    go_wp2_with fail
    refine (iHasNode_any _ _ ns ls _ _ HN.out HL.out).mono ?_
    rintro e w1 ⟨rfl, hb⟩
    rw [HI.out]
    have B0 := hid (B0.out.below hb)
    have S0 := hid (then_ S0.out hb S0.out.size)
    have HN := hid (HN.out.below hb)
    have HL := hid (HL.out.below hb)
    have v0 := B0.out.c0
    have v1 := B0.out.c1
    have vlt := B0.out.lt
    clear hb
  · go_wp2
    go_ret
    exact ⟨ret_int (by unfold dgF; rw [HI.out]; rfl), S0.out⟩
  · go_wp2_with fail
    refine (iLA_any _ _ ns ls _ _ HN.out HL.out).mono ?_
    rintro e w2 ⟨v, rfl, ho, hb⟩
    obtain ⟨A9, c9, rfl⟩ := own_form ho
    have LE := hid (show laF ns ls d = atL ls d ls.length by unfold laF; rw [HI.out]; rfl)
    clear ho
    go_wp2
    go_ret
    exact ⟨ret_int (by unfold dgF; rw [HI.out, LE.out]; rfl), then_ S0.out hb S0.out.size⟩
theorem sDg_any (vn vl : Value) (ns ls : List (Int × Int)) (d : Int) (w : World) (hn : PairsAt w vn ns) (hl : PairsAt w vl ls) : Calls Try.prog 43 #[.agg #[vn, vl], .int .i64 d] w fun e w' => e = .returned (.int .i64 (dgF ns ls d)) ∧ Below w.heap.size w w' := by
  have s0 : Below w.heap.size w (w.alloc (.cells #[vn, vl] 25)) := (Below.refl _ _).alloc (Nat.le_refl _) _
  have HN := hid (hn.below s0)
  have HL := hid (hl.below s0)
  have B0 := hid (BoxV.new w vn vl 25 w.heap.size rfl)
  have S0 := hid s0
  clear s0
  obtain ⟨A, c, rfl, hcn, hm, _⟩ := id hn
  obtain ⟨A', c', rfl, hcl, hm', _⟩ := id hl
  unfold maxLen at hm hm'
  clear hn hl
  have v0 := B0.out.c0
  have v1 := B0.out.c1
  cases hw : winOkB ns ls
  · have HW := hid hw
    have HI := hid (show isNode ns ls d = false by unfold isNode; rw [hw]; rfl)
    clear hw
    go_enter Try.func43, Try.ntmps43
    go_wp2_with fail
    refine (sWin_any _ _ ns ls _ HN.out HL.out).mono ?_
    rintro e w1 ⟨rfl, hb⟩
    rw [HW.out]
    go_wp2
    go_ret
    exact ⟨ret_int (by unfold dgF; rw [HI.out]; rfl), then_ S0.out hb S0.out.size⟩
  · have HW := hid hw
    have hl20 := (win_leads hw).2.1
    cases hin : inB d 0 ((ns.length : Int) - 1)
    all_goals
      have HI := hid (show isNode ns ls d = inB d 0 ((ns.length : Int) - 1) by unfold isNode; rw [hw]; rfl)
      have HIN := hid hin
      clear hin hw
      go_enter Try.func43, Try.ntmps43
      go_wp2_with fail
      refine (sWin_any _ _ ns ls _ HN.out HL.out).mono ?_
      rintro e w1 ⟨rfl, hb⟩
      rw [HW.out]
      have B0 := hid (B0.out.below hb)
      have S0 := hid (then_ S0.out hb S0.out.size)
      have HN := hid (HN.out.below hb)
      have HL := hid (HL.out.below hb)
      have v0 := B0.out.c0
      have v1 := B0.out.c1
      have vlt := B0.out.lt
      clear hb
      go_wp2_with fail
      refine (l01In_any _ _ _ _).mono ?_
      rintro e w' ⟨rfl, rfl⟩
      rw [HIN.out]
    · go_wp2
      go_ret
      exact ⟨ret_int (by unfold dgF; rw [HI.out, HIN.out]; rfl), S0.out⟩
    · go_wp2_with fail
      refine (sLA_any _ _ ns ls _ _ HN.out HL.out).mono ?_
      rintro e w2 ⟨v, rfl, ho, hb⟩
      obtain ⟨A9, c9, rfl⟩ := own_form ho
      have LE := hid (show laF ns ls d = atL ls d ls.length by unfold laF; rw [HI.out, HIN.out]; rfl)
      clear ho
      go_wp2
      go_ret
      exact ⟨ret_int (by unfold dgF; rw [HI.out, HIN.out, LE.out]; rfl), then_ S0.out hb S0.out.size⟩
end Go.Proofs.Ythghbpklabdghaa

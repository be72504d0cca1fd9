/- What LeadBetween, the functions on darts, LeadsAt's count and their like return, in the program and in the reference. No condition. -/
import Derived.Test.YtmkgdilabpehlaaWinS
namespace Go.Proofs.Ytmkgdilabpehlaa
open Go.ChangeShapes Go.WideShapes Go.ChangeAt Go.RowKit
set_option maxHeartbeats 1000000
set_option linter.unusedSimpArgs false
set_option linter.unusedVariables false

def lbF (ns ls : List (Int × Int)) (a b : Int) : Int := if winOkB ns ls then idxP ls (min a b) (max a b) else -1
def mn (a b : Int) : Int := min a b
def mx (a b : Int) : Int := max a b
theorem iLB_any (vn vl : Value) (ns ls : List (Int × Int)) (a b : Int) (w : World) (hn : PairsAt w vn ns) (hl : PairsAt w vl ls) : Calls Try.prog 82 #[.agg #[vn, vl], .int .i64 a, .int .i64 b] w fun e w' => e = .returned (.int .i64 (lbF ns ls a b)) ∧ Below w.heap.size w w' := by
  have s0 : Below w.heap.size w (w.alloc (.cells #[vn, vl] 31)) := (Below.refl _ _).alloc (Nat.le_refl _) _
  have HN := hid (hn.below s0)
  have HL := hid (hl.below s0)
  have B0 := hid (BoxV.new w vn vl 31 w.heap.size rfl)
  have S0 := hid s0
  clear s0
  obtain ⟨A, c, rfl, hcn, hm, _⟩ := id hn
  obtain ⟨A', c', rfl, hcl, hm', _⟩ := id hl
  unfold maxLen at hm hm'
  clear hn hl
  have v0 := B0.out.c0
  have v1 := B0.out.c1
  cases hw : winOkB ns ls
  · have HW := hid hw
    go_enter Try.func82, Try.ntmps82
    go_wp2_with fail
    refine (iWin_any _ _ ns ls _ HN.out HL.out).mono ?_
    rintro e w1 ⟨rfl, hb⟩
    rw [HW.out]
    go_wp2
    go_ret
    exact ⟨ret_int (by unfold lbF; rw [HW.out]; rfl), then_ S0.out hb S0.out.size⟩
  · have HW := hid hw
    clear hw
    rcases Int.lt_trichotomy a b with hx | rfl | hx
    all_goals
      go_enter Try.func82, Try.ntmps82
      go_wp2_with fail
      refine (iWin_any _ _ ns ls _ HN.out HL.out).mono ?_
      rintro e w1 ⟨rfl, hb⟩
      rw [HW.out]
      have B0 := hid (B0.out.below hb)
      have S0 := hid (then_ S0.out hb S0.out.size)
      have HN := hid (HN.out.below hb)
      have HL := hid (HL.out.below hb)
      have v0 := B0.out.c0
      have v1 := B0.out.c1
      have vlt := B0.out.lt
      clear hb
      go_wp2_with fail
      refine (indexLead_any _ ls _ _ _ HL.out).mono ?_
      rintro e w2 ⟨rfl, hb⟩
      go_wp2
      go_ret
      refine ⟨ret_int ?_, then_ S0.out hb S0.out.size⟩
      unfold lbF
      rw [HW.out]
    · rw [Int.min_eq_left (Int.le_of_lt hx), Int.max_eq_right (Int.le_of_lt hx)]; rfl
    · rw [Int.min_self, Int.max_self]; rfl
    · rw [Int.min_eq_right (Int.le_of_lt hx), Int.max_eq_left (Int.le_of_lt hx)]; rfl
end Go.Proofs.Ytmkgdilabpehlaa

/- The walk of the law FnClamped: it returns true whatever bytes it draws from. No condition. -/
import Derived.Test.YtmngmmjimkdcfaaCurN
import Derived.Test.YtmngmmjimkdcfaaPure
namespace Go.Proofs.Ytmngmmjimkdcfaa
open Go.ChangeShapes Go.WideShapes Go.ChangeAt Go.RowKit
set_option maxHeartbeats 1000000
set_option linter.unusedSimpArgs false
set_option linter.unusedVariables false
theorem iClampV_any (n lo hi : Int) (w : World) : Calls Try.prog 18 #[.int .i64 n, .int .i64 lo, .int .i64 hi] w fun e w' => e = .returned (.int .i64 (clampF n lo hi)) ∧ w = w' := by
  go_enter Try.func18, Try.ntmps18
  go_wp2
  all_goals go_ret
  all_goals exact ⟨ret_int (by unfold clampF; repeat' split <;> omega), rfl⟩
def Draw3 (w : World) (e : Ending) (w' : World) : Prop := ∃ a b c : Int, e = .returned (.tuple #[.int .i64 a, .int .i64 b, .int .i64 c]) ∧ Below w.heap.size w w'
theorem drawClamp_any (A : Option Addr) (n c : Nat) (w : World) (hb : LoBytes w A n) (hn : n ≤ 1048576) : Calls Try.prog 17 #[.slice A n c] w (Draw3 w) := by
  have LB := hid hb
  clear hb
  go_enter Try.func17, Try.ntmps17
  go_wp2_with fail
  refine (curNew_any A n c _ LB.out hn).mono ?_
  rintro e w1 ⟨p, rfl, hp, hc, hb⟩
  have K1 := hid hc
  have B1 := hid hb
  clear hc hb
  go_wp2_with fail
  refine (curOnce_any p 4 _ K1.out (by omega) (by omega)).mono ?_
  rintro e w2 ⟨b, rfl, hc, hg⟩
  have K2 := hid hc
  have B2 := hid (B1.out.grown hg B1.out.size (fun g hg => by cases hg; exact hp))
  clear hc hg
  cases b
  · go_wp2_with fail
    refine (curBelow_any p 40 _ K2.out (by omega) (by omega)).mono ?_
    rintro e w3 ⟨x, x0, x1, rfl, hc, hg⟩
    have K3 := hid hc
    have B3 := hid (B2.out.grown hg B2.out.size (fun g hg => by cases hg; exact hp))
    clear hc hg
    go_wp2_with fail
    refine (curBelow_any p 80 _ K3.out (by omega) (by omega)).mono ?_
    rintro e w4 ⟨y, y0, y1, rfl, hc, hg⟩
    have K4 := hid hc
    have B4 := hid (B3.out.grown hg B3.out.size (fun g hg => by cases hg; exact hp))
    clear hc hg
    go_wp2_with fail
    refine (curBelow_any p 30 _ K4.out (by omega) (by omega)).mono ?_
    rintro e w5 ⟨z, z0, z1, rfl, hc, hg⟩
    have B5 := hid (B4.out.grown hg B4.out.size (fun g hg => by cases hg; exact hp))
    clear hc hg
    go_wp2
    go_ret3
    exact ⟨_, _, _, rfl, B5.out⟩
  · go_wp2_with fail
    refine (curNumber_any p _ K2.out).mono ?_
    rintro e w3 ⟨x, x0, x1, rfl, hc, hg⟩
    have K3 := hid hc
    have B3 := hid (B2.out.grown hg B2.out.size (fun g hg => by cases hg; exact hp))
    clear hc hg x0 x1
    go_wp2_with fail
    refine (curNumber_any p _ K3.out).mono ?_
    rintro e w4 ⟨y, y0, y1, rfl, hc, hg⟩
    have K4 := hid hc
    have B4 := hid (B3.out.grown hg B3.out.size (fun g hg => by cases hg; exact hp))
    clear hc hg y0 y1
    go_wp2_with fail
    refine (curNumber_any p _ K4.out).mono ?_
    rintro e w5 ⟨z, z0, z1, rfl, hc, hg⟩
    have B5 := hid (B4.out.grown hg B4.out.size (fun g hg => by cases hg; exact hp))
    clear hc hg z0 z1
    go_wp2
    go_ret3
    exact ⟨_, _, _, rfl, B5.out⟩
theorem FnClamped_walk (w : World) (A : Option Addr) (n c : Nat) (hb : LoBytes w A n) (hn : n ≤ maxLen) : Calls Try.prog 6 #[.slice A n c] w fun e w' => e = .returned (.bool true) ∧ Below w.heap.size w w' := by
  have LB := hid hb
  clear hb
  by_cases hbig : 1048576 < n
  · have hd : decide (1048576 < n) = true := by simpa using hbig
    have BG := hid (big_any A n c w hn)
    rw [hd] at BG
    go_enter Try.func6, Try.ntmps6
    go_wp2_with fail
    refine BG.out.mono ?_
    rintro e w' ⟨rfl, rfl⟩
    go_wp2
    go_ret
    exact ⟨rfl, Below.refl _ _⟩
  · have hd : decide (1048576 < n) = false := by simpa using hbig
    have BG := hid (big_any A n c w hn)
    rw [hd] at BG
    clear hd
    go_enter Try.func6, Try.ntmps6
    go_wp2_with fail
    refine BG.out.mono ?_
    rintro e w' ⟨rfl, rfl⟩
    go_wp2_with fail
    refine (drawClamp_any A n c _ LB.out (by omega)).mono ?_
    rintro e w1 ⟨x, lo, hi, rfl, hb1⟩
    have B1 := hid hb1
    clear hb1 BG
    go_wp2_with fail
    refine (iClampV_any x lo hi _).mono ?_
    rintro e w' ⟨rfl, rfl⟩
    have c7 : clampF 7 3 5 = 5 := by decide
    by_cases h1 : hi < lo
    · have hx : clampF x lo hi = lo := by unfold clampF; rw [if_pos (.inl h1)]
      rw [hx]
      clear hx
      go_wp2_with fail
      refine (iClampV_any 7 3 5 _).mono ?_
      rintro e w' ⟨rfl, rfl⟩
      rw [c7]
      go_wp2
      go_ret
      exact ⟨rfl, B1.out⟩
    · have hy : clampF (clampF x lo hi) lo hi = clampF x lo hi := by unfold clampF; repeat' split <;> omega
      have hy1 : lo ≤ clampF x lo hi := by unfold clampF; repeat' split <;> omega
      have hy2 : clampF x lo hi ≤ hi := by unfold clampF; repeat' split <;> omega
      have hy3 : x < lo ∨ (lo ≤ x ∧ hi < x) ∨ (lo ≤ x ∧ x ≤ hi ∧ clampF x lo hi = x) := by unfold clampF; repeat' split <;> omega
      have HY := hid hy
      clear hy
      rcases hy3 with h3 | ⟨h3, h4⟩ | ⟨h3, h4, h5⟩
      rotate_right
      · rw [h5] at hy1 hy2 HY ⊢
        clear h5
        go_wp2_with fail
        refine (iClampV_any x lo hi _).mono ?_
        rintro e w' ⟨rfl, rfl⟩
        rw [HY.out]
        go_wp2_with fail
        refine (iClampV_any 7 3 5 _).mono ?_
        rintro e w' ⟨rfl, rfl⟩
        rw [c7]
        go_wp2
        go_ret
        exact ⟨rfl, B1.out⟩
      all_goals
        generalize clampF x lo hi = y at HY hy1 hy2 ⊢
        go_wp2_with fail
        refine (iClampV_any y lo hi _).mono ?_
        rintro e w' ⟨rfl, rfl⟩
        rw [HY.out]
        go_wp2_with fail
        refine (iClampV_any 7 3 5 _).mono ?_
        rintro e w' ⟨rfl, rfl⟩
        rw [c7]
        go_wp2
        go_ret
        exact ⟨rfl, B1.out⟩
end Go.Proofs.Ytmngmmjimkdcfaa

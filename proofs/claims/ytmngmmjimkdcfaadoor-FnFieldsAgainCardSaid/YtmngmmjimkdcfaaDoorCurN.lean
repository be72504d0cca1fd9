/- How the cursor is made, and what further functions draw from it. No condition but the sizes that are named. -/
import Derived.Test.YtmngmmjimkdcfaaDoorCur
import Derived.Test.YtmngmmjimkdcfaaDoorOpenT
namespace Go.Proofs.YtmngmmjimkdcfaaDoor
open Go.ChangeShapes Go.WideShapes Go.ChangeAt Go.RowKit
set_option maxHeartbeats 1000000
set_option linter.unusedSimpArgs false
set_option linter.unusedVariables false
theorem and30 (a : Int) : 0 ≤ bits .and .i64 a 1073741823 ∧ bits .and .i64 a 1073741823 ≤ 1073741823 := by
  have hx : ((BitVec.ofInt 64 a) &&& (BitVec.ofInt 64 1073741823)).toNat ≤ 1073741823 := by
    rw [BitVec.toNat_and]
    exact Nat.le_trans Nat.and_le_right (by decide)
  have e : bits .and .i64 a 1073741823 = IntKind.i64.wrap (((BitVec.ofInt 64 a) &&& (BitVec.ofInt 64 1073741823)).toNat : Int) := rfl
  rw [e, IntKind.wrap_i64]
  omega
theorem big_any (A : Option Addr) (n c : Nat) (w : World) (hn : n ≤ maxLen) : Calls Tryd.prog 12 #[.slice A n c] w fun e w' => e = .returned (.bool (decide (1048576 < n))) ∧ w = w' := by
  unfold maxLen at hn
  go_enter Tryd.func12, Tryd.ntmps12
  go_wp2
  go_ret
  exact ⟨ret_bool (by rw [Bool.eq_iff_iff]; simp; omega), rfl⟩
def NewCur (w : World) (e : Ending) (w' : World) : Prop := ∃ p, e = .returned (.pointer (some ⟨p, 0, none⟩)) ∧ w.heap.size ≤ p ∧ Cur w' p ∧ Below w.heap.size w w'
set_option maxRecDepth 100000 in
theorem curNew_any (A : Option Addr) (n c : Nat) (w : World) (hb : LoBytes w A n) (hn : n ≤ 1048576) : Calls Tryd.prog 23 #[.slice A n c] w (NewCur w) := by
  have LB := hid hb
  clear hb
  go_enter Tryd.func23, Tryd.ntmps23
  go_wp2_with fail
  go_loop [3, 4] (fun h i => ∃ k : Nat, k ≤ n ∧ i = .int .i64 k ∧ ∃ x : Int, h = .int .i64 x ∧ 0 ≤ x ∧ x ≤ 1073741823) (fun _ i => n - (intOf i).toNat)
  case atStart => exact ⟨0, Nat.zero_le _, rfl, _, rfl, by omega, by omega⟩
  case round =>
    obtain ⟨k, hk, rfl, x, rfl, hx0, hx1⟩ := hrel
    by_cases hlt : k < n ∧ k < 4000
    · obtain ⟨hlt, h4⟩ := hlt
      obtain ⟨b, off, xc, rfl, hb2, hb3, hb4, hb5⟩ := LB.out k hlt
      have hk0 : (0 : Int) ≤ (k : Int) := by omega
      have hk1 : (k : Int) < (n : Int) := by omega
      go_wp2
      go_round
      case rel => exact ⟨k + 1, by omega, by go_num, _, rfl, (and30 _).1, (and30 _).2⟩
      case measure => simp [intOf]; omega
    · have hcs : n ≤ k ∨ (k < n ∧ 4000 ≤ k) := by omega
      have CN : CurAt (w.alloc (.cells #[.slice A n c, .int .i64 0, .int .i64 x] 47)) w.heap.size A n c 0 x := by
        refine ⟨by simp, by rw [cell_new _ _ _ _ _ rfl]; rfl, by rw [cell_new _ _ _ _ _ rfl]; rfl, by rw [cell_new _ _ _ _ _ rfl]; rfl, by simp [World.frozen?_alloc_new], by simp [World.frozen?_alloc_new], by omega, by omega, by omega, fun j hj => ?_⟩
        obtain ⟨b, off, y, e1, e2, e3, e4⟩ := LB.out j hj
        exact ⟨b, off, y, e1, by omega, by simp; omega, (World.cell?_alloc_lt _ _ _ e2).trans e3, e4⟩
      have K := hid CN
      have S := hid ((Below.refl w.heap.size w).alloc (Nat.le_refl _) (.cells #[.slice A n c, .int .i64 0, .int .i64 x] 47))
      clear CN hlt
      rcases hcs with hd1 | ⟨hd1, hd2⟩
      all_goals
        go_wp2
        go_ret
        exact ⟨_, rfl, Nat.le_refl _, ⟨_, _, _, _, _, K.out⟩, S.out⟩
theorem Cur.lt {w : World} {p : Nat} (H : Cur w p) : p < w.heap.size := by
  obtain ⟨A, n, c, i, h, H⟩ := H
  exact H.lt
theorem Cur.alloc {w : World} {p : Nat} (H : Cur w p) (o : Obj) : Cur (w.alloc o) p := H.below ((Below.refl _ _).alloc (Nat.le_refl _) o)
theorem curPick_any (p g m c : Nat) (lo hi : Int) (w : World) (H : Cur w p) (hg : g < w.heap.size) (hp : g ≠ p) (h0 : 0 < m) (h1 : m ≤ 1000) (hc : ∀ k, k < m → ∃ x : Int, lo ≤ x ∧ x ≤ hi ∧ w.cell? ⟨g, k, none⟩ = some (.int .i64 x)) :
    Calls Tryd.prog 32 #[.pointer (some ⟨p, 0, none⟩), .slice (some ⟨g, 0, none⟩) m c] w (DrawI p lo hi w) := by
  have HH := hid H
  have HC := hid hc
  clear H hc
  go_enter Tryd.func32, Tryd.ntmps32
  go_wp2_with fail
  refine (curBelow_any p (m : Int) _ HH.out (by omega) (by omega)).mono ?_
  rintro e w1 ⟨x, hx0, hx1, rfl, hk, hg1⟩
  have K := hid hk
  have G := hid hg1
  clear hk hg1
  obtain ⟨k, rfl⟩ : ∃ k : Nat, x = (k : Int) := ⟨x.toNat, by omega⟩
  have hkm : k < m := by omega
  obtain ⟨y, y0, y1, hy⟩ := HC.out k hkm
  have hy' : w1.cell? ⟨g, k, none⟩ = some (.int .i64 y) := G.out.cell hy (fun e => hp (by injection e))
  clear hy hx1
  go_wp2
  go_ret
  exact ⟨y, y0, y1, rfl, K.out, G.out⟩
theorem DrawI.wide {p : Nat} {lo hi lo' hi' : Int} {w : World} {e : Ending} {w' : World} (h : DrawI p lo hi w e w') (h0 : lo' ≤ lo) (h1 : hi ≤ hi') : DrawI p lo' hi' w e w' := by
  obtain ⟨x, a, b, c⟩ := h
  exact ⟨x, by omega, by omega, c⟩
theorem curNumber_any (p : Nat) (w : World) (H : Cur w p) : Calls Tryd.prog 26 #[.pointer (some ⟨p, 0, none⟩)] w (DrawI p (-9223372036854775808) 9223372036854775807 w) := by
  have HH := hid H
  clear H
  go_enter Tryd.func26, Tryd.ntmps26
  go_wp2_with fail
  refine (curBelow_any p 4 _ HH.out (by omega) (by omega)).mono ?_
  rintro e w1 ⟨x, hx0, hx1, rfl, hk, hg1⟩
  have K := hid hk
  have G := hid hg1
  clear hk hg1
  have hx : x = 0 ∨ x = 1 ∨ (x = 2 ∨ x = 3) := by omega
  clear hx0 hx1
  rcases hx with rfl | rfl | hx
  · go_wp2_with fail
    refine (curPick_any p w1.heap.size 10 10 (-9223372036854775808) 9223372036854775807 _ (K.out.alloc _) (by simp) (by have := K.out.lt; omega) (by omega) (by omega) (fun k hk => ?_)).mono ?_
    · rw [cell_new _ _ _ _ _ rfl]
      have : k = 0 ∨ k = 1 ∨ k = 2 ∨ k = 3 ∨ k = 4 ∨ k = 5 ∨ k = 6 ∨ k = 7 ∨ k = 8 ∨ k = 9 := by omega
      rcases this with rfl | rfl | rfl | rfl | rfl | rfl | rfl | rfl | rfl | rfl
      all_goals exact ⟨_, by decide, by decide, rfl⟩
    · rintro e w2 ⟨y, y0, y1, rfl, hk, hg⟩
      have K2 := hid hk
      have G2 := hid ((G.out.trans (World.grownBy_alloc w1 _ _)).trans hg)
      have Y := hid (And.intro y0 y1)
      clear hk hg y0 y1
      go_wp2
      go_ret
      exact ⟨y, Y.out.1, Y.out.2, rfl, K2.out, G2.out⟩
  · go_wp2_with fail
    refine (curBelow_any p 1000000000 _ K.out (by omega) (by omega)).mono ?_
    rintro e w2 ⟨y, y0, y1, rfl, hk, hg⟩
    have K2 := hid hk
    have G2 := hid (G.out.trans hg)
    clear hk hg
    go_wp2
    go_ret
    exact ⟨y, by omega, by omega, rfl, K2.out, G2.out⟩
  · rcases hx with rfl | rfl
    all_goals
      go_wp2_with fail
      refine (curBelow_any p 400 _ K.out (by omega) (by omega)).mono ?_
      rintro e w2 ⟨y, y0, y1, rfl, hk, hg⟩
      have K2 := hid hk
      have G2 := hid (G.out.trans hg)
      clear hk hg
      go_wp2
      go_ret
      exact ⟨y, by omega, by omega, rfl, K2.out, G2.out⟩
end Go.Proofs.YtmngmmjimkdcfaaDoor

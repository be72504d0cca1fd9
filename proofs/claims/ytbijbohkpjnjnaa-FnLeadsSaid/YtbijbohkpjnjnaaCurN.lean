/- How the cursor is made, and what further functions draw from it. No condition but the sizes that are named. -/
import Derived.Test.YtbijbohkpjnjnaaCur
import Derived.Test.YtbijbohkpjnjnaaOpenT
namespace Go.Proofs.Ytbijbohkpjnjnaa
open Go.ChangeShapes Go.WideShapes Go.ChangeAt Go.RowKit
set_option maxHeartbeats 1000000
set_option linter.unusedSimpArgs false
set_option linter.unusedVariables false
theorem and30 (a : Int) : 0 ≤ bits .and .i64 a 1073741823 ∧ bits .and .i64 a 1073741823 ≤ 1073741823 := by
  have hx : ((BitVec.ofInt 64 a) &&& (BitVec.ofInt 64 1073741823)).toNat ≤ 1073741823 := by
    rw [BitVec.toNat_and]
    exact Nat.le_trans Nat.and_le_right (by decide)
  have e : bits .and .i64 a 1073741823 = IntKind.i64.wrap (((BitVec.ofInt 64 a) &&& (BitVec.ofInt 64 1073741823)).toNat : Int) := rfl
  rw [e, IntKind.wrap_i64]
  omega
theorem big_any (A : Option Addr) (n c : Nat) (w : World) (hn : n ≤ maxLen) : Calls Try.prog 4 #[.slice A n c] w fun e w' => e = .returned (.bool (decide (1048576 < n))) ∧ w = w' := by
  unfold maxLen at hn
  go_enter Try.func4, Try.ntmps4
  go_wp2
  go_ret
  exact ⟨ret_bool (by rw [Bool.eq_iff_iff]; simp; omega), rfl⟩
def NewCur (w : World) (e : Ending) (w' : World) : Prop := ∃ p, e = .returned (.pointer (some ⟨p, 0, none⟩)) ∧ w.heap.size ≤ p ∧ Cur w' p ∧ Below w.heap.size w w'
set_option maxRecDepth 100000 in
theorem curNew_any (A : Option Addr) (n c : Nat) (w : World) (hb : LoBytes w A n) (hn : n ≤ 1048576) : Calls Try.prog 13 #[.slice A n c] w (NewCur w) := by
  have LB := hid hb
  clear hb
  go_enter Try.func13, Try.ntmps13
  go_wp2_with fail
  go_loop [3, 4] (fun h i => ∃ k : Nat, k ≤ n ∧ i = .int .i64 k ∧ ∃ x : Int, h = .int .i64 x ∧ 0 ≤ x ∧ x ≤ 1073741823) (fun _ i => n - (intOf i).toNat)
  case atStart => exact ⟨0, Nat.zero_le _, rfl, _, rfl, by omega, by omega⟩
  case round =>
    obtain ⟨k, hk, rfl, x, rfl, hx0, hx1⟩ := hrel
    by_cases hlt : k < n ∧ k < 4000
    · obtain ⟨hlt, h4⟩ := hlt
      obtain ⟨b, off, xc, rfl, hb2, hb3, hb4, hb5⟩ := LB.out k hlt
      have hk0 : (0 : Int) ≤ (k : Int) := by omega
      have hk1 : (k : Int) < (n : Int) := by omega
      go_wp2
      go_round
      case rel => exact ⟨k + 1, by omega, by go_num, _, rfl, (and30 _).1, (and30 _).2⟩
      case measure => simp [intOf]; omega
    · have hcs : n ≤ k ∨ (k < n ∧ 4000 ≤ k) := by omega
      have CN : CurAt (w.alloc (.cells #[.slice A n c, .int .i64 0, .int .i64 x] 59)) w.heap.size A n c 0 x := by
        refine ⟨by simp, by rw [cell_new _ _ _ _ _ rfl]; rfl, by rw [cell_new _ _ _ _ _ rfl]; rfl, by rw [cell_new _ _ _ _ _ rfl]; rfl, by simp [World.frozen?_alloc_new], by simp [World.frozen?_alloc_new], by omega, by omega, by omega, fun j hj => ?_⟩
        obtain ⟨b, off, y, e1, e2, e3, e4⟩ := LB.out j hj
        exact ⟨b, off, y, e1, by omega, by simp; omega, (World.cell?_alloc_lt _ _ _ e2).trans e3, e4⟩
      have K := hid CN
      have S := hid ((Below.refl w.heap.size w).alloc (Nat.le_refl _) (.cells #[.slice A n c, .int .i64 0, .int .i64 x] 59))
      clear CN hlt
      rcases hcs with hd1 | ⟨hd1, hd2⟩
      all_goals
        go_wp2
        go_ret
        exact ⟨_, rfl, Nat.le_refl _, ⟨_, _, _, _, _, K.out⟩, S.out⟩
theorem Cur.lt {w : World} {p : Nat} (H : Cur w p) : p < w.heap.size := by
  obtain ⟨A, n, c, i, h, H⟩ := H
  exact H.lt
theorem Cur.alloc {w : World} {p : Nat} (H : Cur w p) (o : Obj) : Cur (w.alloc o) p := H.below ((Below.refl _ _).alloc (Nat.le_refl _) o)
theorem curPick_any (p g m c : Nat) (lo hi : Int) (w : World) (H : Cur w p) (hg : g < w.heap.size) (hp : g ≠ p) (h0 : 0 < m) (h1 : m ≤ 1000) (hc : ∀ k, k < m → ∃ x : Int, lo ≤ x ∧ x ≤ hi ∧ w.cell? ⟨g, k, none⟩ = some (.int .i64 x)) :
    Calls Try.prog 28 #[.pointer (some ⟨p, 0, none⟩), .slice (some ⟨g, 0, none⟩) m c] w (DrawI p lo hi w) := by
  have HH := hid H
  have HC := hid hc
  clear H hc
  go_enter Try.func28, Try.ntmps28
  go_wp2_with fail
  refine (curBelow_any p (m : Int) _ HH.out (by omega) (by omega)).mono ?_
  rintro e w1 ⟨x, hx0, hx1, rfl, hk, hg1⟩
  have K := hid hk
  have G := hid hg1
  clear hk hg1
  obtain ⟨k, rfl⟩ : ∃ k : Nat, x = (k : Int) := ⟨x.toNat, by omega⟩
  have hkm : k < m := by omega
  obtain ⟨y, y0, y1, hy⟩ := HC.out k hkm
  have hy' : w1.cell? ⟨g, k, none⟩ = some (.int .i64 y) := G.out.cell hy (fun e => hp (by injection e))
  clear hy hx1
  go_wp2
  go_ret
  exact ⟨y, y0, y1, rfl, K.out, G.out⟩
theorem DrawI.wide {p : Nat} {lo hi lo' hi' : Int} {w : World} {e : Ending} {w' : World} (h : DrawI p lo hi w e w') (h0 : lo' ≤ lo) (h1 : hi ≤ hi') : DrawI p lo' hi' w e w' := by
  obtain ⟨x, a, b, c⟩ := h
  exact ⟨x, by omega, by omega, c⟩
end Go.Proofs.Ytbijbohkpjnjnaa

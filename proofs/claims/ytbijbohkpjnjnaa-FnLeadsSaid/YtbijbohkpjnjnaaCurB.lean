/- The cursor once more, with a bound on the blocks of the bytes over which it stands: cells above the bound may be written. No condition but that it is a cursor. -/
import Derived.Test.YtbijbohkpjnjnaaCurN
import Derived.Test.YtbijbohkpjnjnaaConv
namespace Go.Proofs.Ytbijbohkpjnjnaa.Bd
open Go.ChangeShapes Go.WideShapes Go.ChangeAt Go.RowKit
set_option maxHeartbeats 1000000
set_option maxRecDepth 100000
set_option linter.unusedSimpArgs false
set_option linter.unusedVariables false
set_option linter.unusedSectionVars false
/-- the bytes lie in blocks below B -/
def Low (B : Nat) (A : Option Addr) (n : Nat) : Prop := ∀ k, k < n → ∃ b off, A = some ⟨b, off, none⟩ ∧ b < B
def Cur (B : Nat) (w : World) (p : Nat) : Prop := ∃ A n c i h, CurAt w p A n c i h ∧ Low B A n
variable {B : Nat}
theorem Cur.none_ {w w' : World} {p : Nat} (H : Cur B w p) (hb : w.grownBy w' none) : Cur B w' p := by
  obtain ⟨A, n, c, i, h, H, L⟩ := H
  exact ⟨A, n, c, i, h, H.keep none (fun g e => by cases e) hb, L⟩
theorem Cur.keep {w w' : World} {p : Nat} (H : Cur B w p) (row : Option Nat) (hr : ∀ g, row = some g → p < g) (hb : w.grownBy w' row) : Cur B w' p := by
  obtain ⟨A, n, c, i, h, H, L⟩ := H
  exact ⟨A, n, c, i, h, H.keep row hr hb, L⟩
theorem Cur.below {w w' : World} {p : Nat} (H : Cur B w p) (hb : Below w.heap.size w w') : Cur B w' p := H.none_ (grownBy_below' hb)
/-- a block above the bytes, other than the cursor's, is written -/
theorem Cur.over {w w' : World} {p g : Nat} (H : Cur B w p) (hb : w.grownBy w' (some g)) (hg : B ≤ g) (hp : p ≠ g) : Cur B w' p := by
  obtain ⟨A, n, c, i, h, H, L⟩ := H
  have hp' : some p ≠ some g := fun e => hp (Option.some.inj e)
  have cp : ∀ o v, w.cell? ⟨p, o, none⟩ = some v → w'.cell? ⟨p, o, none⟩ = some v := fun o v e => hb.cell e hp'
  have fz : ∀ o, w'.frozen? ⟨p, o, none⟩ = w.frozen? ⟨p, o, none⟩ := fun o => by
    unfold World.frozen?
    rw [hb.block p H.lt hp']
  refine ⟨A, n, c, i, h, ⟨Nat.lt_of_lt_of_le H.lt hb.size, cp _ _ H.c0, cp _ _ H.c1, cp _ _ H.c2, (fz 1).trans H.f1, (fz 2).trans H.f2, H.lo, H.hi, H.len, fun k hk => ?_⟩, L⟩
  obtain ⟨b, off, x, e1, e2, e3, e4, e5⟩ := H.bytes k hk
  obtain ⟨b2, off2, q1, q2⟩ := L k hk
  have q3 := Option.some.inj (q1.symm.trans e1)
  injection q3 with q3 _ _
  exact ⟨b, off, x, e1, e2, Nat.lt_of_lt_of_le e3 hb.size, hb.cell e4 (fun e' => by have := Option.some.inj e'; have : b = g := this; omega), e5⟩
theorem Cur.plain {w : World} {p : Nat} (H : Cur B w p) : Go.Proofs.Ytbijbohkpjnjnaa.Cur w p := by
  obtain ⟨A, n, c, i, h, H, _⟩ := H
  exact ⟨A, n, c, i, h, H⟩
def DrawI {B : Nat} (p : Nat) (lo hi : Int) (w : World) (e : Ending) (w' : World) : Prop := ∃ x : Int, lo ≤ x ∧ x ≤ hi ∧ e = .returned (.int .i64 x) ∧ Cur B w' p ∧ w.grownBy w' (some p)
def DrawB {B : Nat} (p : Nat) (w : World) (e : Ending) (w' : World) : Prop := ∃ x : Bool, e = .returned (.bool x) ∧ Cur B w' p ∧ w.grownBy w' (some p)
theorem curByte_any (p : Nat) (w : World) (H : Cur B w p) : Calls Try.prog 33 #[.pointer (some ⟨p, 0, none⟩)] w (DrawI (B := B) p 0 255 w) := by
  obtain ⟨A, n, c, i, h, H, LOW⟩ := H
  have LW := hid LOW
  clear LOW
  have HH := hid H
  have c0 := H.c0
  have c1 := H.c1
  have c2 := H.c2
  have f1 := H.f1
  have f2 := H.f2
  have hlt := H.lt
  have lo := H.lo
  have hi := H.hi
  have hlen := H.len
  clear H
  go_enter Try.func33, Try.ntmps33
  go_wp2_with fail
  obtain ⟨h', hh⟩ : ∃ h', h' = wrap64 (wrap64 (h * 6364136223846793005) + 1442695040888963407) := ⟨_, rfl⟩
  rw [← hh]
  clear hh
  have K := hid (HH.out.set2 h')
  have G := hid (cur_set w p 2 (.int .i64 h'))
  clear HH c0 c1 c2 f1 f2 hlt
  generalize w.setCell ⟨p, 2, none⟩ (.int .i64 h') = w1 at K G ⊢
  have m0 := fun q => (K.out.mv q).c0
  have m1 := fun q => (K.out.mv q).c1
  have m2 := fun q => (K.out.mv q).c2
  refine wp_region_mv (by kernel_rfl) (by kernel_rfl) ?_
  repeat (go_big_quiet_step (fail))
  refine wpQuiet_nil ?_
  intro _ hw'
  obtain ⟨q, hw''⟩ := hw'
  subst hw''
  have K1 := hid (K.out.mv q)
  have G1 := hid (G.out.trans (grownBy_below' (below_mv w1 q)))
  clear m0 m1 m2 K G
  generalize mv w1 q = w2 at K1 G1 ⊢
  go_wp2_with fail
  obtain ⟨k, rfl⟩ : ∃ k : Nat, i = (k : Int) := ⟨i.toNat, by omega⟩
  generalize bits BinOp.xor IntKind.i64 (h' / 8589934592) (h' / 35184372088832) = a0
  have xb := and255 a0
  obtain ⟨x1, hx1⟩ : ∃ x1, x1 = bits BinOp.and IntKind.i64 a0 255 := ⟨_, rfl⟩
  rw [← hx1] at xb ⊢
  clear hx1
  have x0 : 0 ≤ x1 := xb.1
  have x2 : x1 ≤ 255 := xb.2
  clear xb
  have m0 := fun q => (K1.out.mv q).c0
  have m1 := fun q => (K1.out.mv q).c1
  by_cases hlt : k < n
  · have hd : decide ((k : Int) < (n : Int)) = true := by simp; omega
    refine wp_region_mv (by kernel_rfl) (by kernel_rfl) ?_
    repeat (go_big_quiet_step (fail))
    refine wpQuiet_nil ?_
    intro _ hw'
    obtain ⟨q2, hw''⟩ := hw'
    subst hw''
    have K2 := hid (K1.out.mv q2)
    have G2 := hid (G1.out.trans (grownBy_below' (below_mv w2 q2)))
    clear m0 m1 K1 G1
    generalize mv w2 q2 = w3 at K2 G2 ⊢
    go_wp2_with fail
    obtain ⟨b, off, xc, rfl, hb1, hb2, hb3, hb4, hb5⟩ := K2.out.bytes k hlt
    have m0 := fun q => (K2.out.mv q).c0
    have m1 := fun q => (K2.out.mv q).c1
    have m3 := fun q => cell_mv (w := w3) hb2 hb3 q
    have hk0 : (0 : Int) ≤ (k : Int) := by omega
    have hk1 : (k : Int) < (n : Int) := by omega
    clear hb1 hb2 hb3
    refine wp_region_mv (by kernel_rfl) (by kernel_rfl) ?_
    repeat (go_big_quiet_step (fail))
    refine wpQuiet_nil ?_
    intro _ hw'
    obtain ⟨q3, hw''⟩ := hw'
    subst hw''
    have K3 := hid (K2.out.mv q3)
    have G3 := hid (G2.out.trans (grownBy_below' (below_mv w3 q3)))
    clear m0 m1 m3 K2 G2
    generalize mv w3 q3 = w4 at K3 G3 ⊢
    have c1 := K3.out.c1
    have f1 := K3.out.f1
    have ylt := K3.out.lt
    go_wp2
    go_ret
    exact ⟨_, (and255 _).1, (and255 _).2, rfl, ⟨_, _, _, _, _, K3.out.set1 ((k : Int) + 1) (by omega) (by omega), LW.out⟩, G3.out.trans (cur_set w4 p 1 _)⟩
  · have hd : decide ((k : Int) < (n : Int)) = false := by simp; omega
    refine wp_region_mv (by kernel_rfl) (by kernel_rfl) ?_
    repeat (go_big_quiet_step (fail))
    refine wpQuiet_nil ?_
    intro _ hw'
    obtain ⟨q2, hw''⟩ := hw'
    subst hw''
    have K2 := hid (K1.out.mv q2)
    have G2 := hid (G1.out.trans (grownBy_below' (below_mv w2 q2)))
    clear m0 m1 K1 G1
    generalize mv w2 q2 = w3 at K2 G2 ⊢
    go_wp2
    go_ret
    exact ⟨x1, x0, x2, rfl, ⟨_, _, _, _, _, K2.out, LW.out⟩, G2.out⟩
theorem curBelow_small (p : Nat) (n : Int) (w : World) (H : Cur B w p) (h0 : 0 < n) (h1 : n ≤ 256) : Calls Try.prog 20 #[.pointer (some ⟨p, 0, none⟩), .int .i64 n] w (DrawI (B := B) p 0 (n - 1) w) := by
  have HH := hid H
  clear H
  go_enter Try.func20, Try.ntmps20
  go_wp2_with fail
  refine (curByte_any p _ HH.out).mono ?_
  rintro e w1 ⟨x, hx0, hx1, rfl, hc, hg⟩
  have K := hid hc
  have G := hid hg
  have B := hid (tmod_bd hx0 h0)
  have B' := hid (Int.tmod_eq_emod_of_nonneg (b := n) hx0)
  clear hc hg
  go_wp2
  go_ret
  exact ⟨_, by have := B.out; rw [B'.out] at this; first | exact this.1 | exact B.out.1, by have := B.out; rw [B'.out] at this; first | exact this.2 | exact B.out.2, rfl, K.out, G.out⟩
theorem curBelow_zero (p : Nat) (n : Int) (w : World) (H : Cur B w p) (h0 : n ≤ 0) : Calls Try.prog 20 #[.pointer (some ⟨p, 0, none⟩), .int .i64 n] w (DrawI (B := B) p 0 0 w) := by
  have HH := hid H
  clear H
  go_enter Try.func20, Try.ntmps20
  go_wp2
  go_ret
  exact ⟨0, by omega, by omega, rfl, HH.out, World.grownBy.refl w _⟩
theorem curBelow_great (p : Nat) (n : Int) (w : World) (H : Cur B w p) (h0 : 256 < n) (h1 : n ≤ 9223372036854775807) : Calls Try.prog 20 #[.pointer (some ⟨p, 0, none⟩), .int .i64 n] w (DrawI (B := B) p 0 (n - 1) w) := by
  have HH := hid H
  clear H
  go_enter Try.func20, Try.ntmps20
  go_wp2_with fail
  refine (curByte_any p _ HH.out).mono ?_
  rintro e w1 ⟨x, hx0, hx1, rfl, hc, hg⟩
  have K1 := hid hc
  have G1 := hid hg
  clear hc hg
  go_wp2_with fail
  refine (curByte_any p _ K1.out).mono ?_
  rintro e w2 ⟨y, hy0, hy1, rfl, hc, hg⟩
  have K2 := hid hc
  have G2 := hid (G1.out.trans hg)
  clear hc hg
  go_wp2_with fail
  refine (curByte_any p _ K2.out).mono ?_
  rintro e w3 ⟨z, hz0, hz1, rfl, hc, hg⟩
  have K3 := hid hc
  have G3 := hid (G2.out.trans hg)
  clear hc hg
  go_wp2_with fail
  refine (curByte_any p _ K3.out).mono ?_
  rintro e w4 ⟨v, hv0, hv1, rfl, hc, hg⟩
  have K4 := hid hc
  have G4 := hid (G3.out.trans hg)
  clear hc hg
  obtain ⟨t, ht⟩ : ∃ t, t = x * 16777216 + y * 65536 + z * 256 + v := ⟨_, rfl⟩
  have ht0 : 0 ≤ t := by omega
  have B := hid (tmod_bd ht0 (show 0 < n by omega))
  have B' := hid (Int.tmod_eq_emod_of_nonneg (b := n) ht0)
  have HT := hid ht
  clear ht
  go_wp2
  rw [← HT.out]
  go_ret
  exact ⟨_, by have := B.out; rw [B'.out] at this; first | exact this.1 | exact B.out.1, by have := B.out; rw [B'.out] at this; first | exact this.2 | exact B.out.2, rfl, K4.out, G4.out⟩
theorem curBelow_any (p : Nat) (n : Int) (w : World) (H : Cur B w p) (h0 : 0 < n) (h1 : n ≤ 9223372036854775807) : Calls Try.prog 20 #[.pointer (some ⟨p, 0, none⟩), .int .i64 n] w (DrawI (B := B) p 0 (n - 1) w) := by
  by_cases h : n ≤ 256
  · exact curBelow_small p n w H h0 h
  · exact curBelow_great p n w H (by omega) h1
theorem curOnce_any (p : Nat) (n : Int) (w : World) (H : Cur B w p) (h0 : 0 < n) (h1 : n ≤ 9223372036854775807) : Calls Try.prog 21 #[.pointer (some ⟨p, 0, none⟩), .int .i64 n] w (DrawB (B := B) p w) := by
  have HH := hid H
  clear H
  go_enter Try.func21, Try.ntmps21
  go_wp2_with fail
  refine (curBelow_any p n _ HH.out h0 h1).mono ?_
  rintro e w1 ⟨x, hx0, hx1, rfl, hc, hg⟩
  have K := hid hc
  have G := hid hg
  clear hc hg
  go_wp2
  go_ret
  exact ⟨_, rfl, K.out, G.out⟩
def NewCur (B : Nat) (w : World) (e : Ending) (w' : World) : Prop := ∃ p, e = .returned (.pointer (some ⟨p, 0, none⟩)) ∧ w.heap.size ≤ p ∧ Cur B w' p ∧ Below w.heap.size w w'
set_option maxRecDepth 100000 in
theorem curNew_any (A : Option Addr) (n c : Nat) (w : World) (hb : LoBytes w A n) (hlow : Low B A n) (hn : n ≤ 1048576) : Calls Try.prog 13 #[.slice A n c] w (NewCur B w) := by
  have LB := hid hb
  clear hb
  have LW := hid hlow
  clear hlow
  go_enter Try.func13, Try.ntmps13
  go_wp2_with fail
  go_loop [3, 4] (fun h i => ∃ k : Nat, k ≤ n ∧ i = .int .i64 k ∧ ∃ x : Int, h = .int .i64 x ∧ 0 ≤ x ∧ x ≤ 1073741823) (fun _ i => n - (intOf i).toNat)
  case atStart => exact ⟨0, Nat.zero_le _, rfl, _, rfl, by omega, by omega⟩
  case round =>
    obtain ⟨k, hk, rfl, x, rfl, hx0, hx1⟩ := hrel
    by_cases hlt : k < n ∧ k < 4000
    · obtain ⟨hlt, h4⟩ := hlt
      obtain ⟨b, off, xc, rfl, hb2, hb3, hb4, hb5⟩ := LB.out k hlt
      have hk0 : (0 : Int) ≤ (k : Int) := by omega
      have hk1 : (k : Int) < (n : Int) := by omega
      go_wp2
      go_round
      case rel => exact ⟨k + 1, by omega, by go_num, _, rfl, (and30 _).1, (and30 _).2⟩
      case measure => simp [intOf]; omega
    · have hcs : n ≤ k ∨ (k < n ∧ 4000 ≤ k) := by omega
      have CN : CurAt (w.alloc (.cells #[.slice A n c, .int .i64 0, .int .i64 x] 59)) w.heap.size A n c 0 x := by
        refine ⟨by simp, by rw [cell_new _ _ _ _ _ rfl]; rfl, by rw [cell_new _ _ _ _ _ rfl]; rfl, by rw [cell_new _ _ _ _ _ rfl]; rfl, by simp [World.frozen?_alloc_new], by simp [World.frozen?_alloc_new], by omega, by omega, by omega, fun j hj => ?_⟩
        obtain ⟨b, off, y, e1, e2, e3, e4⟩ := LB.out j hj
        exact ⟨b, off, y, e1, by omega, by simp; omega, (World.cell?_alloc_lt _ _ _ e2).trans e3, e4⟩
      have K := hid CN
      have S := hid ((Below.refl w.heap.size w).alloc (Nat.le_refl _) (.cells #[.slice A n c, .int .i64 0, .int .i64 x] 59))
      clear CN hlt
      rcases hcs with hd1 | ⟨hd1, hd2⟩
      all_goals
        go_wp2
        go_ret
        exact ⟨_, rfl, Nat.le_refl _, ⟨_, _, _, _, _, K.out, LW.out⟩, S.out⟩
theorem Cur.lt {w : World} {p : Nat} (H : Cur B w p) : p < w.heap.size := H.plain.lt
theorem Cur.alloc {w : World} {p : Nat} (H : Cur B w p) (o : Obj) : Cur B (w.alloc o) p := H.below ((Below.refl _ _).alloc (Nat.le_refl _) o)
theorem curPick_any (p g m c : Nat) (lo hi : Int) (w : World) (H : Cur B w p) (hg : g < w.heap.size) (hp : g ≠ p) (h0 : 0 < m) (h1 : m ≤ 1000) (hc : ∀ k, k < m → ∃ x : Int, lo ≤ x ∧ x ≤ hi ∧ w.cell? ⟨g, k, none⟩ = some (.int .i64 x)) :
    Calls Try.prog 28 #[.pointer (some ⟨p, 0, none⟩), .slice (some ⟨g, 0, none⟩) m c] w (DrawI (B := B) p lo hi w) := by
  have HH := hid H
  have HC := hid hc
  clear H hc
  go_enter Try.func28, Try.ntmps28
  go_wp2_with fail
  refine (curBelow_any p (m : Int) _ HH.out (by omega) (by omega)).mono ?_
  rintro e w1 ⟨x, hx0, hx1, rfl, hk, hg1⟩
  have K := hid hk
  have G := hid hg1
  clear hk hg1
  obtain ⟨k, rfl⟩ : ∃ k : Nat, x = (k : Int) := ⟨x.toNat, by omega⟩
  have hkm : k < m := by omega
  obtain ⟨y, y0, y1, hy⟩ := HC.out k hkm
  have hy' : w1.cell? ⟨g, k, none⟩ = some (.int .i64 y) := G.out.cell hy (fun e => hp (by injection e))
  clear hy hx1
  go_wp2
  go_ret
  exact ⟨y, y0, y1, rfl, K.out, G.out⟩
theorem DrawI.wide {p : Nat} {lo hi lo' hi' : Int} {w : World} {e : Ending} {w' : World} (h : DrawI (B := B) p lo hi w e w') (h0 : lo' ≤ lo) (h1 : hi ≤ hi') : DrawI (B := B) p lo' hi' w e w' := by
  obtain ⟨x, a, b, c⟩ := h
  exact ⟨x, by omega, by omega, c⟩
def DrawNode {B : Nat} (p : Nat) (w : World) (e : Ending) (w' : World) : Prop := ∃ x y : Int, 0 ≤ x ∧ x ≤ 12 ∧ 0 ≤ y ∧ y ≤ 12 ∧ e = .returned (.agg #[.int .i64 x, .int .i64 y]) ∧ Cur B w' p ∧ w.grownBy w' (some p)
theorem drawNode_any (p : Nat) (w : World) (H : Cur B w p) : Calls Try.prog 25 #[.pointer (some ⟨p, 0, none⟩)] w (DrawNode (B := B) p w) := by
  have plt := H.lt
  have K0 := hid (H.alloc (.cells #[.int .i64 0, .int .i64 0] 38))
  have R0 := hid (Blk.new w 38 #[.int .i64 0, .int .i64 0])
  have G0 := hid (World.grownBy_alloc w (.cells #[.int .i64 0, .int .i64 0] 38) (some p))
  clear H
  go_enter Try.func25, Try.ntmps25
  go_wp2_with fail
  refine (curBelow_any p 13 _ K0.out (by omega) (by omega)).mono ?_
  rintro e w1 ⟨x, x0, x1, rfl, hk, hg⟩
  have K1 := hid hk
  have R1 := hid (R0.out.grow hg (fun e => by have := Option.some.inj e; omega))
  have G1 := hid (G0.out.trans hg)
  clear hk hg K0 R0 G0
  go_wp2_with fail
  refine (curBelow_any p 13 _ K1.out (by omega) (by omega)).mono ?_
  rintro e w2 ⟨y, y0, y1, rfl, hk, hg⟩
  have K2 := hid hk
  have R2 := hid (R1.out.grow hg (fun e => by have := Option.some.inj e; omega))
  have G2 := hid (G1.out.trans hg)
  clear hk hg K1 R1 G1
  have r0 : w2.cell? ⟨w.heap.size, 0, none⟩ = some (.int .i64 0) := by rw [R2.out.cell]; rfl
  have r1 : w2.cell? ⟨w.heap.size, 1, none⟩ = some (.int .i64 0) := by rw [R2.out.cell]; rfl
  have f0 : w2.frozen? ⟨w.heap.size, 0, none⟩ = false := R2.out.frozen 0
  have f1 : w2.frozen? ⟨w.heap.size, 1, none⟩ = false := R2.out.frozen 1
  have R3 := (R2.out.set_ 0 (.int .i64 x)).set_ 1 (.int .i64 y)
  have t0 : ((w2.setCell ⟨w.heap.size, 0, none⟩ (.int .i64 x)).setCell ⟨w.heap.size, 1, none⟩ (.int .i64 y)).cell? ⟨w.heap.size, 0, none⟩ = some (.int .i64 x) := by rw [R3.cell]; rfl
  have t1 : ((w2.setCell ⟨w.heap.size, 0, none⟩ (.int .i64 x)).setCell ⟨w.heap.size, 1, none⟩ (.int .i64 y)).cell? ⟨w.heap.size, 1, none⟩ = some (.int .i64 y) := by rw [R3.cell]; rfl
  have hb : Below w.heap.size w2 ((w2.setCell ⟨w.heap.size, 0, none⟩ (.int .i64 x)).setCell ⟨w.heap.size, 1, none⟩ (.int .i64 y)) := ((Below.refl _ _).setCell (p := ⟨w.heap.size, 0, none⟩) (Nat.le_refl _) _).setCell (p := ⟨w.heap.size, 1, none⟩) (Nat.le_refl _) _
  have hc : ∀ o (v : Value) (W : World), Cur B W p → Cur B (W.setCell ⟨w.heap.size, o, none⟩ v) p := fun o v W hk => hk.keep (some w.heap.size) (fun g e => by have := Option.some.inj e; omega) (cur_set W w.heap.size o v)
  have K3 := hid (hc 1 (.int .i64 y) _ (hc 0 (.int .i64 x) _ K2.out))
  have G3 : w.grownBy ((w2.setCell ⟨w.heap.size, 0, none⟩ (.int .i64 x)).setCell ⟨w.heap.size, 1, none⟩ (.int .i64 y)) (some p) := ⟨hb.os.trans G2.out.os, hb.tape.trans G2.out.tape, hb.output.trans G2.out.output, Nat.le_trans G2.out.size hb.size, fun k hk hne => (hb.block k hk).trans (G2.out.block k hk hne)⟩
  have G4 := hid G3
  clear R3 hb G3
  go_wp2
  exact bodyPost_ret (v := .agg #[.int .i64 x, .int .i64 y]) (by simp [results, Try.results25, go_sem, t0, t1]) rfl ⟨x, y, x0, by omega, y0, by omega, rfl, K3.out, G4.out⟩
end Go.Proofs.Ytbijbohkpjnjnaa.Bd

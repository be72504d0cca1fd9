/- The cursor from which the laws draw their inputs: what it yields, whatever bytes it stands over. No condition but that it is a cursor. -/
import Derived.Test.YtmngmmjimkdcfaaDoorHeld
import Derived.Test.YtmngmmjimkdcfaaDoorRows
import Derived.OwnWalk
namespace Go.Proofs.YtmngmmjimkdcfaaDoor
open Go.ChangeShapes Go.WideShapes Go.ChangeAt Go.RowKit
set_option maxHeartbeats 1000000
set_option linter.unusedSimpArgs false
set_option linter.unusedVariables false
/-- the bytes of a slice, each in a block ahead of p -/
def BytesBut (p : Nat) (w : World) (A : Option Addr) (n : Nat) : Prop :=
  ∀ k, k < n → ∃ b off x, A = some ⟨b, off, none⟩ ∧ b < p ∧ b < w.heap.size ∧ w.cell? ⟨b, off + k, none⟩ = some (.int .u8 x) ∧ 0 ≤ x ∧ x ≤ 255
/-- block p is a cursor -/
structure CurAt (w : World) (p : Nat) (A : Option Addr) (n c : Nat) (i h : Int) : Prop where
  lt : p < w.heap.size
  c0 : w.cell? ⟨p, 0, none⟩ = some (.slice A n c)
  c1 : w.cell? ⟨p, 1, none⟩ = some (.int .i64 i)
  c2 : w.cell? ⟨p, 2, none⟩ = some (.int .i64 h)
  f1 : w.frozen? ⟨p, 1, none⟩ = false
  f2 : w.frozen? ⟨p, 2, none⟩ = false
  lo : 0 ≤ i
  hi : i ≤ (n : Int)
  len : (n : Int) ≤ 9223372036854775806
  bytes : BytesBut p w A n
def Cur (w : World) (p : Nat) : Prop := ∃ A n c i h, CurAt w p A n c i h
theorem CurAt.keep {w w' : World} {p : Nat} {A : Option Addr} {n c : Nat} {i h : Int} (H : CurAt w p A n c i h) (row : Option Nat) (hr : ∀ g, row = some g → p < g) (hb : w.grownBy w' row) : CurAt w' p A n c i h := by
  have hp : some p ≠ row := fun e => by have := hr p e.symm; omega
  have cp : ∀ o v, w.cell? ⟨p, o, none⟩ = some v → w'.cell? ⟨p, o, none⟩ = some v := fun o v e => hb.cell e hp
  have fz : ∀ o, w'.frozen? ⟨p, o, none⟩ = w.frozen? ⟨p, o, none⟩ := fun o => by
    unfold World.frozen?
    rw [hb.block p H.lt hp]
  refine ⟨Nat.lt_of_lt_of_le H.lt hb.size, cp _ _ H.c0, cp _ _ H.c1, cp _ _ H.c2, (fz 1).trans H.f1, (fz 2).trans H.f2, H.lo, H.hi, H.len, fun k hk => ?_⟩
  obtain ⟨b, off, x, e1, e2, e3, e4, e5⟩ := H.bytes k hk
  exact ⟨b, off, x, e1, e2, Nat.lt_of_lt_of_le e3 hb.size, hb.cell e4 (fun e' => by have := hr b e'.symm; omega), e5⟩
theorem Cur.none_ {w w' : World} {p : Nat} (H : Cur w p) (hb : w.grownBy w' none) : Cur w' p := by
  obtain ⟨A, n, c, i, h, H⟩ := H
  exact ⟨A, n, c, i, h, H.keep none (fun g e => by cases e) hb⟩
theorem Cur.keep {w w' : World} {p : Nat} (H : Cur w p) (row : Option Nat) (hr : ∀ g, row = some g → p < g) (hb : w.grownBy w' row) : Cur w' p := by
  obtain ⟨A, n, c, i, h, H⟩ := H
  exact ⟨A, n, c, i, h, H.keep row hr hb⟩
theorem grownBy_below' {w w' : World} {row : Option Nat} (h : Below w.heap.size w w') : w.grownBy w' row := ⟨h.os, h.tape, h.output, h.size, fun k hk _ => h.block k hk⟩
theorem Cur.below {w w' : World} {p : Nat} (H : Cur w p) (hb : Below w.heap.size w w') : Cur w' p := H.none_ (grownBy_below' hb)
def DrawI (p : Nat) (lo hi : Int) (w : World) (e : Ending) (w' : World) : Prop := ∃ x : Int, lo ≤ x ∧ x ≤ hi ∧ e = .returned (.int .i64 x) ∧ Cur w' p ∧ w.grownBy w' (some p)
def DrawB (p : Nat) (w : World) (e : Ending) (w' : World) : Prop := ∃ x : Bool, e = .returned (.bool x) ∧ Cur w' p ∧ w.grownBy w' (some p)
theorem and255 (a : Int) : 0 ≤ bits .and .i64 a 255 ∧ bits .and .i64 a 255 ≤ 255 := by
  have hx : ((BitVec.ofInt 64 a) &&& (BitVec.ofInt 64 255)).toNat ≤ 255 := by
    rw [BitVec.toNat_and]
    exact Nat.le_trans Nat.and_le_right (by decide)
  have e : bits .and .i64 a 255 = IntKind.i64.wrap (((BitVec.ofInt 64 a) &&& (BitVec.ofInt 64 255)).toNat : Int) := rfl
  rw [e, IntKind.wrap_i64]
  omega
theorem CurAt.set2 {w : World} {p : Nat} {A : Option Addr} {n c : Nat} {i h : Int} (H : CurAt w p A n c i h) (h' : Int) : CurAt (w.setCell ⟨p, 2, none⟩ (.int .i64 h')) p A n c i h' := by
  have o : ∀ b k, (b ≠ p ∨ k ≠ 2) → (w.setCell ⟨p, 2, none⟩ (.int .i64 h')).cell? ⟨b, k, none⟩ = w.cell? ⟨b, k, none⟩ := fun b k hne => World.cell?_setCell_other _ _ _ _ (fun e => by injection e with e1 e2; omega)
  refine ⟨by simpa using H.lt, (o _ _ (.inr (by decide))).trans H.c0, (o _ _ (.inr (by decide))).trans H.c1, World.cell?_setCell_same _ _ _ H.c2, by simpa using H.f1, by simpa using H.f2, H.lo, H.hi, H.len, fun k hk => ?_⟩
  obtain ⟨b, off, x, e1, e2, e3, e4, e5⟩ := H.bytes k hk
  exact ⟨b, off, x, e1, e2, by simpa using e3, (o _ _ (.inl (by omega))).trans e4, e5⟩
theorem CurAt.set1 {w : World} {p : Nat} {A : Option Addr} {n c : Nat} {i h : Int} (H : CurAt w p A n c i h) (i' : Int) (h0 : 0 ≤ i') (h1 : i' ≤ (n : Int)) : CurAt (w.setCell ⟨p, 1, none⟩ (.int .i64 i')) p A n c i' h := by
  have o : ∀ b k, (b ≠ p ∨ k ≠ 1) → (w.setCell ⟨p, 1, none⟩ (.int .i64 i')).cell? ⟨b, k, none⟩ = w.cell? ⟨b, k, none⟩ := fun b k hne => World.cell?_setCell_other _ _ _ _ (fun e => by injection e with e1 e2; omega)
  refine ⟨by simpa using H.lt, (o _ _ (.inr (by decide))).trans H.c0, World.cell?_setCell_same _ _ _ H.c1, (o _ _ (.inr (by decide))).trans H.c2, by simpa using H.f1, by simpa using H.f2, h0, h1, H.len, fun k hk => ?_⟩
  obtain ⟨b, off, x, e1, e2, e3, e4, e5⟩ := H.bytes k hk
  exact ⟨b, off, x, e1, e2, by simpa using e3, (o _ _ (.inl (by omega))).trans e4, e5⟩
theorem cur_set (w : World) (p o : Nat) (v : Value) : w.grownBy (w.setCell ⟨p, o, none⟩ v) (some p) :=
  ⟨rfl, rfl, rfl, by simp, fun k hk hne => Below.heap_setCell w ⟨p, o, none⟩ v k (fun e => hne (by rw [e]))⟩
theorem CurAt.mv {w : World} {p : Nat} {A : Option Addr} {n c : Nat} {i h : Int} (H : CurAt w p A n c i h) (q : Mv) : CurAt (mv w q) p A n c i h :=
  H.keep none (fun g e => by cases e) (grownBy_below' (below_mv w q))
theorem curByte_any (p : Nat) (w : World) (H : Cur w p) : Calls Tryd.prog 31 #[.pointer (some ⟨p, 0, none⟩)] w (DrawI p 0 255 w) := by
  obtain ⟨A, n, c, i, h, H⟩ := H
  have HH := hid H
  have c0 := H.c0
  have c1 := H.c1
  have c2 := H.c2
  have f1 := H.f1
  have f2 := H.f2
  have hlt := H.lt
  have lo := H.lo
  have hi := H.hi
  have hlen := H.len
  clear H
  go_enter Tryd.func31, Tryd.ntmps31
  go_wp2_with fail
  obtain ⟨h', hh⟩ : ∃ h', h' = wrap64 (wrap64 (h * 6364136223846793005) + 1442695040888963407) := ⟨_, rfl⟩
  rw [← hh]
  clear hh
  have K := hid (HH.out.set2 h')
  have G := hid (cur_set w p 2 (.int .i64 h'))
  clear HH c0 c1 c2 f1 f2 hlt
  generalize w.setCell ⟨p, 2, none⟩ (.int .i64 h') = w1 at K G ⊢
  have m0 := fun q => (K.out.mv q).c0
  have m1 := fun q => (K.out.mv q).c1
  have m2 := fun q => (K.out.mv q).c2
  refine wp_region_mv (by kernel_rfl) (by kernel_rfl) ?_
  repeat (go_big_quiet_step (fail))
  refine wpQuiet_nil ?_
  intro _ hw'
  obtain ⟨q, hw''⟩ := hw'
  subst hw''
  have K1 := hid (K.out.mv q)
  have G1 := hid (G.out.trans (grownBy_below' (below_mv w1 q)))
  clear m0 m1 m2 K G
  generalize mv w1 q = w2 at K1 G1 ⊢
  go_wp2_with fail
  obtain ⟨k, rfl⟩ : ∃ k : Nat, i = (k : Int) := ⟨i.toNat, by omega⟩
  generalize bits BinOp.xor IntKind.i64 (h' / 8589934592) (h' / 35184372088832) = a0
  have xb := and255 a0
  obtain ⟨x1, hx1⟩ : ∃ x1, x1 = bits BinOp.and IntKind.i64 a0 255 := ⟨_, rfl⟩
  rw [← hx1] at xb ⊢
  clear hx1
  have x0 : 0 ≤ x1 := xb.1
  have x2 : x1 ≤ 255 := xb.2
  clear xb
  have m0 := fun q => (K1.out.mv q).c0
  have m1 := fun q => (K1.out.mv q).c1
  by_cases hlt : k < n
  · have hd : decide ((k : Int) < (n : Int)) = true := by simp; omega
    refine wp_region_mv (by kernel_rfl) (by kernel_rfl) ?_
    repeat (go_big_quiet_step (fail))
    refine wpQuiet_nil ?_
    intro _ hw'
    obtain ⟨q2, hw''⟩ := hw'
    subst hw''
    have K2 := hid (K1.out.mv q2)
    have G2 := hid (G1.out.trans (grownBy_below' (below_mv w2 q2)))
    clear m0 m1 K1 G1
    generalize mv w2 q2 = w3 at K2 G2 ⊢
    go_wp2_with fail
    obtain ⟨b, off, xc, rfl, hb1, hb2, hb3, hb4, hb5⟩ := K2.out.bytes k hlt
    have m0 := fun q => (K2.out.mv q).c0
    have m1 := fun q => (K2.out.mv q).c1
    have m3 := fun q => cell_mv (w := w3) hb2 hb3 q
    have hk0 : (0 : Int) ≤ (k : Int) := by omega
    have hk1 : (k : Int) < (n : Int) := by omega
    clear hb1 hb2 hb3
    refine wp_region_mv (by kernel_rfl) (by kernel_rfl) ?_
    repeat (go_big_quiet_step (fail))
    refine wpQuiet_nil ?_
    intro _ hw'
    obtain ⟨q3, hw''⟩ := hw'
    subst hw''
    have K3 := hid (K2.out.mv q3)
    have G3 := hid (G2.out.trans (grownBy_below' (below_mv w3 q3)))
    clear m0 m1 m3 K2 G2
    generalize mv w3 q3 = w4 at K3 G3 ⊢
    have c1 := K3.out.c1
    have f1 := K3.out.f1
    have ylt := K3.out.lt
    go_wp2
    go_ret
    exact ⟨_, (and255 _).1, (and255 _).2, rfl, ⟨_, _, _, _, _, K3.out.set1 ((k : Int) + 1) (by omega) (by omega)⟩, G3.out.trans (cur_set w4 p 1 _)⟩
  · have hd : decide ((k : Int) < (n : Int)) = false := by simp; omega
    refine wp_region_mv (by kernel_rfl) (by kernel_rfl) ?_
    repeat (go_big_quiet_step (fail))
    refine wpQuiet_nil ?_
    intro _ hw'
    obtain ⟨q2, hw''⟩ := hw'
    subst hw''
    have K2 := hid (K1.out.mv q2)
    have G2 := hid (G1.out.trans (grownBy_below' (below_mv w2 q2)))
    clear m0 m1 K1 G1
    generalize mv w2 q2 = w3 at K2 G2 ⊢
    go_wp2
    go_ret
    exact ⟨x1, x0, x2, rfl, ⟨_, _, _, _, _, K2.out⟩, G2.out⟩
theorem tmod_bd {a n : Int} (ha : 0 ≤ a) (hn : 0 < n) : 0 ≤ a.tmod n ∧ a.tmod n ≤ n - 1 := by
  rw [Int.tmod_eq_emod_of_nonneg ha]
  have := Int.emod_nonneg a (show n ≠ 0 by omega)
  have := Int.emod_lt_of_pos a hn
  omega
theorem curBelow_small (p : Nat) (n : Int) (w : World) (H : Cur w p) (h0 : 0 < n) (h1 : n ≤ 256) : Calls Tryd.prog 25 #[.pointer (some ⟨p, 0, none⟩), .int .i64 n] w (DrawI p 0 (n - 1) w) := by
  have HH := hid H
  clear H
  go_enter Tryd.func25, Tryd.ntmps25
  go_wp2_with fail
  refine (curByte_any p _ HH.out).mono ?_
  rintro e w1 ⟨x, hx0, hx1, rfl, hc, hg⟩
  have K := hid hc
  have G := hid hg
  have B := hid (tmod_bd hx0 h0)
  have B' := hid (Int.tmod_eq_emod_of_nonneg (b := n) hx0)
  clear hc hg
  go_wp2
  go_ret
  exact ⟨_, by have := B.out; rw [B'.out] at this; first | exact this.1 | exact B.out.1, by have := B.out; rw [B'.out] at this; first | exact this.2 | exact B.out.2, rfl, K.out, G.out⟩
theorem curBelow_zero (p : Nat) (n : Int) (w : World) (H : Cur w p) (h0 : n ≤ 0) : Calls Tryd.prog 25 #[.pointer (some ⟨p, 0, none⟩), .int .i64 n] w (DrawI p 0 0 w) := by
  have HH := hid H
  clear H
  go_enter Tryd.func25, Tryd.ntmps25
  go_wp2
  go_ret
  exact ⟨0, by omega, by omega, rfl, HH.out, World.grownBy.refl w _⟩
theorem curBelow_great (p : Nat) (n : Int) (w : World) (H : Cur w p) (h0 : 256 < n) (h1 : n ≤ 9223372036854775807) : Calls Tryd.prog 25 #[.pointer (some ⟨p, 0, none⟩), .int .i64 n] w (DrawI p 0 (n - 1) w) := by
  have HH := hid H
  clear H
  go_enter Tryd.func25, Tryd.ntmps25
  go_wp2_with fail
  refine (curByte_any p _ HH.out).mono ?_
  rintro e w1 ⟨x, hx0, hx1, rfl, hc, hg⟩
  have K1 := hid hc
  have G1 := hid hg
  clear hc hg
  go_wp2_with fail
  refine (curByte_any p _ K1.out).mono ?_
  rintro e w2 ⟨y, hy0, hy1, rfl, hc, hg⟩
  have K2 := hid hc
  have G2 := hid (G1.out.trans hg)
  clear hc hg
  go_wp2_with fail
  refine (curByte_any p _ K2.out).mono ?_
  rintro e w3 ⟨z, hz0, hz1, rfl, hc, hg⟩
  have K3 := hid hc
  have G3 := hid (G2.out.trans hg)
  clear hc hg
  go_wp2_with fail
  refine (curByte_any p _ K3.out).mono ?_
  rintro e w4 ⟨v, hv0, hv1, rfl, hc, hg⟩
  have K4 := hid hc
  have G4 := hid (G3.out.trans hg)
  clear hc hg
  obtain ⟨t, ht⟩ : ∃ t, t = x * 16777216 + y * 65536 + z * 256 + v := ⟨_, rfl⟩
  have ht0 : 0 ≤ t := by omega
  have B := hid (tmod_bd ht0 (show 0 < n by omega))
  have B' := hid (Int.tmod_eq_emod_of_nonneg (b := n) ht0)
  have HT := hid ht
  clear ht
  go_wp2
  rw [← HT.out]
  go_ret
  exact ⟨_, by have := B.out; rw [B'.out] at this; first | exact this.1 | exact B.out.1, by have := B.out; rw [B'.out] at this; first | exact this.2 | exact B.out.2, rfl, K4.out, G4.out⟩
theorem curBelow_any (p : Nat) (n : Int) (w : World) (H : Cur w p) (h0 : 0 < n) (h1 : n ≤ 9223372036854775807) : Calls Tryd.prog 25 #[.pointer (some ⟨p, 0, none⟩), .int .i64 n] w (DrawI p 0 (n - 1) w) := by
  by_cases h : n ≤ 256
  · exact curBelow_small p n w H h0 h
  · exact curBelow_great p n w H (by omega) h1
theorem curOnce_any (p : Nat) (n : Int) (w : World) (H : Cur w p) (h0 : 0 < n) (h1 : n ≤ 9223372036854775807) : Calls Tryd.prog 24 #[.pointer (some ⟨p, 0, none⟩), .int .i64 n] w (DrawB p w) := by
  have HH := hid H
  clear H
  go_enter Tryd.func24, Tryd.ntmps24
  go_wp2_with fail
  refine (curBelow_any p n _ HH.out h0 h1).mono ?_
  rintro e w1 ⟨x, hx0, hx1, rfl, hc, hg⟩
  have K := hid hc
  have G := hid hg
  clear hc hg
  go_wp2
  go_ret
  exact ⟨_, rfl, K.out, G.out⟩
end Go.Proofs.YtmngmmjimkdcfaaDoor

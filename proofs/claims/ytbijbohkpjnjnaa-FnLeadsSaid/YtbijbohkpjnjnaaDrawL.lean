/- The nodes and leads that the law on leads draws. No condition but the sizes that are named. -/
import Derived.Test.YtbijbohkpjnjnaaDrawW
import Derived.Test.YtbijbohkpjnjnaaCurB
namespace Go.Proofs.Ytbijbohkpjnjnaa.Bd
open Go.ChangeShapes Go.WideShapes Go.ChangeAt Go.RowKit
set_option maxHeartbeats 4000000
set_option maxRecDepth 100000
set_option linter.unusedSimpArgs false
set_option linter.unusedVariables false
/-- W came from w by draws from cursor p, and by writes to blocks that are newer than w -/
structure Dr (B p : Nat) (w W : World) : Prop where
  cur : Cur B W p
  grow : w.grownBy W (some p)
  lo : B ≤ w.heap.size
  lt : p < w.heap.size
theorem Dr.start {B p : Nat} {w : World} (H : Cur B w p) (hB : B ≤ w.heap.size) : Dr B p w w := ⟨H, World.grownBy.refl w _, hB, H.lt⟩
theorem Dr.draw {B p : Nat} {w W W' : World} (h : Dr B p w W) (hc : Cur B W' p) (hg : W.grownBy W' (some p)) : Dr B p w W' := ⟨hc, h.grow.trans hg, h.lo, h.lt⟩
theorem Dr.below {B p : Nat} {w W W' : World} (h : Dr B p w W) (hb : Below W.heap.size W W') : Dr B p w W' := h.draw (h.cur.below hb) (grownBy_below' hb)
theorem Dr.alloc {B p : Nat} {w W : World} (h : Dr B p w W) (o : Obj) : Dr B p w (W.alloc o) := h.below ((Below.refl _ _).alloc (Nat.le_refl _) o)
theorem Dr.over {B p : Nat} {w W W' : World} {row : Option Nat} (h : Dr B p w W) (hg : W.grownBy W' row) (hr : ∀ g, row = some g → w.heap.size ≤ g) : Dr B p w W' := by
  have hlo := h.lo
  have hlt := h.lt
  refine ⟨?_, ⟨hg.os.trans h.grow.os, hg.tape.trans h.grow.tape, hg.output.trans h.grow.output, Nat.le_trans h.grow.size hg.size, fun j hj hne => (hg.block j (Nat.lt_of_lt_of_le hj h.grow.size) (fun e => by have := hr j e.symm; omega)).trans (h.grow.block j hj hne)⟩, hlo, hlt⟩
  cases row with
  | none => exact h.cur.none_ hg
  | some g => have := hr g rfl; exact h.cur.over hg (by omega) (by omega)
theorem Dr.put {B p g : Nat} {w W : World} (h : Dr B p w W) (hg : w.heap.size ≤ g) (o : Nat) (v : Value) : Dr B p w (W.setCell ⟨g, o, none⟩ v) :=
  h.over (cur_set W g o v) (fun g' e => by have := Option.some.inj e; omega)
theorem Dr.size {B p : Nat} {w W : World} (h : Dr B p w W) : w.heap.size ≤ W.heap.size := h.grow.size
/-- a block newer than w is kept by a draw -/
theorem Dr.blk {B p g : Nat} {w W W' : World} {T : TypeId} {cs : Array Value} (h : Dr B p w W) (k : Blk W g T cs) (hg : W.grownBy W' (some p)) (hw : w.heap.size ≤ g) : Blk W' g T cs :=
  k.grow hg (fun e => by have := h.lt; have := Option.some.inj e; omega)
def DrawPair {B : Nat} (p : Nat) (w : World) (e : Ending) (w' : World) : Prop := ∃ x y : Int, e = .returned (.agg #[.int .i64 x, .int .i64 y]) ∧ Dr B p w w'
theorem drawLead_any (B p : Nat) (n : Int) (w : World) (H : Cur B w p) (hB : B ≤ w.heap.size) (h0 : 0 < n) (h1 : n ≤ 1000) : Calls Try.prog 15 #[.pointer (some ⟨p, 0, none⟩), .int .i64 n] w (DrawPair (B := B) p w) := by
  have D0 := hid ((Dr.start H hB).alloc (.cells #[.int .i64 0, .int .i64 0] 30))
  have R0 := hid (Blk.new w 30 #[.int .i64 0, .int .i64 0])
  clear H
  go_enter Try.func15, Try.ntmps15
  go_wp2_with fail
  refine (curBelow_any p n _ D0.out.cur h0 (by omega)).mono ?_
  rintro e w1 ⟨x, x0, x1, rfl, hk, hg⟩
  have D1 := hid (D0.out.draw hk hg)
  have R1 := hid (D0.out.blk R0.out hg (Nat.le_refl _))
  clear hk hg D0 R0 x0 x1
  go_wp2_with fail
  refine (curBelow_any p n _ D1.out.cur h0 (by omega)).mono ?_
  rintro e w2 ⟨y, y0, y1, rfl, hk, hg⟩
  have D2 := hid (D1.out.draw hk hg)
  have R2 := hid (D1.out.blk R1.out hg (Nat.le_refl _))
  clear hk hg D1 R1 y0 y1
  have r0 : w2.cell? ⟨w.heap.size, 0, none⟩ = some (.int .i64 0) := by rw [R2.out.cell]; rfl
  have r1 : w2.cell? ⟨w.heap.size, 1, none⟩ = some (.int .i64 0) := by rw [R2.out.cell]; rfl
  have f0 : w2.frozen? ⟨w.heap.size, 0, none⟩ = false := R2.out.frozen 0
  have f1 : w2.frozen? ⟨w.heap.size, 1, none⟩ = false := R2.out.frozen 1
  have t0 : ∀ a b : Int, ((w2.setCell ⟨w.heap.size, 0, none⟩ (.int .i64 a)).setCell ⟨w.heap.size, 1, none⟩ (.int .i64 b)).cell? ⟨w.heap.size, 0, none⟩ = some (.int .i64 a) := fun a b => by rw [((R2.out.set_ 0 (.int .i64 a)).set_ 1 (.int .i64 b)).cell]; rfl
  have t1 : ∀ a b : Int, ((w2.setCell ⟨w.heap.size, 0, none⟩ (.int .i64 a)).setCell ⟨w.heap.size, 1, none⟩ (.int .i64 b)).cell? ⟨w.heap.size, 1, none⟩ = some (.int .i64 b) := fun a b => by rw [((R2.out.set_ 0 (.int .i64 a)).set_ 1 (.int .i64 b)).cell]; rfl
  have D3 : ∀ a b : Int, Hid (Dr B p w ((w2.setCell ⟨w.heap.size, 0, none⟩ (.int .i64 a)).setCell ⟨w.heap.size, 1, none⟩ (.int .i64 b))) := fun a b => hid ((D2.out.put (g := w.heap.size) (Nat.le_refl _) 0 (.int .i64 a)).put (g := w.heap.size) (Nat.le_refl _) 1 (.int .i64 b))
  go_wp2
  all_goals first
    | exact bodyPost_ret (v := .agg #[.int .i64 x, .int .i64 y]) (by simp [results, Try.results15, go_sem, t0, t1]) rfl ⟨_, _, rfl, (D3 x y).out⟩
    | exact bodyPost_ret (v := .agg #[.int .i64 y, .int .i64 x]) (by simp [results, Try.results15, go_sem, t0, t1]) rfl ⟨_, _, rfl, (D3 y x).out⟩
    | exact bodyPost_ret (v := .agg #[.int .i64 x, .int .i64 x]) (by simp [results, Try.results15, go_sem, t0, t1]) rfl ⟨_, _, rfl, (D3 x x).out⟩
    | exact bodyPost_ret (v := .agg #[.int .i64 y, .int .i64 y]) (by simp [results, Try.results15, go_sem, t0, t1]) rfl ⟨_, _, rfl, (D3 y y).out⟩
/-- nodes drawn for the law on leads: two to seven of them, in a new row -/
def DrawNs {B : Nat} (p : Nat) (w : World) (e : Ending) (w' : World) : Prop := ∃ v ns, e = .returned v ∧ OwnR w.heap.size 38 w' v ns ∧ 2 ≤ ns.length ∧ ns.length ≤ 7 ∧ Dr B p w w'
theorem drawNs_any (B p : Nat) (w : World) (H : Cur B w p) (hB : B ≤ w.heap.size) : Calls Try.prog 27 #[.pointer (some ⟨p, 0, none⟩)] w (DrawNs (B := B) p w) := by
  have ht2 := Try.underlying24
  have D0 := hid ((Dr.start H hB).alloc (.cells #[] 38))
  have O0 := hid (OwnR.lit w.heap.size 38 w (Nat.le_refl _))
  clear H
  go_enter Try.func27, Try.ntmps27
  go_wp2_with fail
  refine (curBelow_any p 6 _ D0.out.cur (by omega) (by omega)).mono ?_
  rintro e w1 ⟨n, n0, n1, rfl, hk, hg⟩
  have D1 := hid (D0.out.draw hk hg)
  have O1 := hid (O0.out.past hg D0.out.lt)
  clear hk hg D0 O0
  have q0 : IntKind.i64.wrap (2 + n) = 2 + n := IntWalk.i64_in _ (by omega)
  obtain ⟨N, hN⟩ : ∃ N : Nat, 2 + n = (N : Int) := ⟨(2 + n).toNat, by omega⟩
  have hN2 : 2 ≤ N := by omega
  have hN7 : N ≤ 7 := by omega
  have q1 : IntKind.i64.wrap (2 + n) = (N : Int) := by rw [← hN]; exact q0
  go_wp2_with fail
  go_loopw [3, 5] (fun o j wr => ∃ k : Nat, k ≤ N ∧ j = .int .i64 k ∧ (∃ ns : List (Int × Int), ns.length = k ∧ Hid (OwnR w.heap.size 38 wr o ns)) ∧ Hid (Dr B p w wr)) (fun _ j _ => N - (intOf j).toNat)
  case atStart => exact ⟨0, Nat.zero_le _, rfl, ⟨[], rfl, O1⟩, D1⟩
  case round =>
    clear O1 D1
    obtain ⟨k, hk, rfl, ⟨ns, hns, O2⟩, D2⟩ := hrel
    by_cases hlt : k < N
    · have hk0 : (0 : Int) ≤ (k : Int) := by omega
      have hk1 : (k : Int) < (N : Int) := by omega
      go_wp2_with fail
      refine (curBelow_any p 5 _ D2.out.cur (by omega) (by omega)).mono ?_
      rintro e w2 ⟨x, x0, x1, rfl, hk', hg⟩
      have D3 := hid (D2.out.draw hk' hg)
      have O3 := hid (O2.out.past hg D2.out.lt)
      clear hk' hg D2 O2
      go_wp2_with fail
      refine (curBelow_any p 5 _ D3.out.cur (by omega) (by omega)).mono ?_
      rintro e w3 ⟨y, y0, y1, rfl, hk', hg⟩
      have a1 : ∀ (W : World) (o : Obj), Below W.heap.size W (W.alloc o) := fun W o => (Below.refl _ _).alloc (Nat.le_refl _) o
      have D4 := hid (((D3.out.draw hk' hg).alloc (.cells #[.int .i64 (2 * x), .int .i64 (2 * y)] 38)).alloc (.cells #[.int .i64 (2 * x), .int .i64 (2 * y)] 38))
      have O4 := hid (((O3.out.past hg D3.out.lt).below (a1 w3 (.cells #[.int .i64 (2 * x), .int .i64 (2 * y)] 38))).below (a1 _ (.cells #[.int .i64 (2 * x), .int .i64 (2 * y)] 38)))
      clear hk' hg D3 O3 a1
      have PX := hid (pairs_new (w3.alloc (.cells #[.int .i64 (2 * x), .int .i64 (2 * y)] 38)) [(2 * x, 2 * y)] 38 #[.int .i64 (2 * x), .int .i64 (2 * y)] (w3.heap.size + 1) 1 (by simp) rfl rfl)
      have DS : w.heap.size ≤ w3.heap.size + 1 + 1 := by simpa using D4.out.size
      have qx : IntKind.i64.wrap (2 * x) = 2 * x := IntWalk.i64_in _ (by omega)
      have qy : IntKind.i64.wrap (2 * y) = 2 * y := IntWalk.i64_in _ (by omega)
      go_wp2_with (at_builtin; refine wpList_append_pairs rfl _ _ 24 38 rfl ht2 infoNode w.heap.size _ ns rfl O4.out _ _ rfl PX.out (by simp; omega) (by simp; omega) ?_)
      intro v' w7 hown hgrow
      have L4 := World.ownsRow.lt O4.out.1
      have D7 := hid (D4.out.over hgrow (fun g e => (L4 g e).1))
      have O7 := hid hown
      clear hown hgrow L4 D4 O4 PX
      go_wp2
      go_roundw
      case rel => exact ⟨k + 1, by omega, by go_num, ⟨ns ++ [(2 * x, 2 * y)], by simp; omega, O7⟩, D7⟩
      case measure => simp [intOf]; omega
    · have hk1 : (k : Int) = (N : Int) := by omega
      have hk2 : ¬ (k : Int) < (N : Int) := by omega
      go_wp2
      go_ret
      exact ⟨_, ns, rfl, O2.out, by omega, by omega, D2.out⟩
/-- any node, valid or not -/
theorem drawAny_any (B p : Nat) (w : World) (H : Cur B w p) (hB : B ≤ w.heap.size) : Calls Try.prog 29 #[.pointer (some ⟨p, 0, none⟩)] w (DrawPair (B := B) p w) := by
  have D0 := hid ((Dr.start H hB).alloc (.cells #[.int .i64 0, .int .i64 0] 38))
  have R0 := hid (Blk.new w 38 #[.int .i64 0, .int .i64 0])
  clear H
  go_enter Try.func29, Try.ntmps29
  go_wp2_with fail
  refine (drawNode_any p _ D0.out.cur).mono ?_
  rintro e w1 ⟨x, y, i0, i1, i2, i3, rfl, hk, hg⟩
  clear i0 i1 i2 i3
  have a1 : ∀ (W : World) (o : Obj), Below W.heap.size W (W.alloc o) := fun W o => (Below.refl _ _).alloc (Nat.le_refl _) o
  have D1 := hid ((D0.out.draw hk hg).alloc (.cells #[.int .i64 x, .int .i64 y] 38))
  have R1 := hid ((D0.out.blk R0.out hg (Nat.le_refl _)).below (a1 w1 (.cells #[.int .i64 x, .int .i64 y] 38)) (by have := hg.size; simp at this; omega))
  have X1 := hid (Blk.new w1 38 #[.int .i64 x, .int .i64 y])
  have GE : Hid (w.heap.size + 1 ≤ w1.heap.size) := hid (by simpa using hg.size)
  clear hk hg D0 R0
  go_wp2_with fail
  generalize w1.heap.size = g at X1 GE ⊢
  generalize w1.alloc _ = w2 at D1 R1 X1 ⊢
  refine (curBelow_any p 14 _ D1.out.cur (by omega) (by omega)).mono ?_
  rintro e w3 ⟨k, k0, k1, rfl, hk, hg⟩
  have D2 := hid (D1.out.draw hk hg)
  have R2 := hid (D1.out.blk R1.out hg (Nat.le_refl _))
  have X2 := hid (D1.out.blk X1.out hg (by have := GE.out; omega))
  clear hk hg D1 R1 X1
  -- the end: the box is read, the result is written
  have T0 : Hid (∀ (W : World) (a b : Int), Blk W g 38 #[.int .i64 a, .int .i64 b] → W.cell? ⟨g, 0, none⟩ = some (.int .i64 a) ∧ W.cell? ⟨g, 1, none⟩ = some (.int .i64 b)) := hid (fun W a b h => ⟨by rw [h.cell]; rfl, by rw [h.cell]; rfl⟩)
  have T1 : Hid (∀ (W : World), Blk W w.heap.size 38 #[.int .i64 0, .int .i64 0] → W.cell? ⟨w.heap.size, 0, none⟩ = some (.int .i64 0) ∧ W.cell? ⟨w.heap.size, 1, none⟩ = some (.int .i64 0) ∧ W.frozen? ⟨w.heap.size, 0, none⟩ = false ∧ W.frozen? ⟨w.heap.size, 1, none⟩ = false) := hid (fun W h => ⟨by rw [h.cell]; rfl, by rw [h.cell]; rfl, h.frozen 0, h.frozen 1⟩)
  have T2 : Hid (∀ (W : World) (a b : Int), Blk W w.heap.size 38 #[.int .i64 0, .int .i64 0] → ((W.setCell ⟨w.heap.size, 0, none⟩ (.int .i64 a)).setCell ⟨w.heap.size, 1, none⟩ (.int .i64 b)).cell? ⟨w.heap.size, 0, none⟩ = some (.int .i64 a) ∧ ((W.setCell ⟨w.heap.size, 0, none⟩ (.int .i64 a)).setCell ⟨w.heap.size, 1, none⟩ (.int .i64 b)).cell? ⟨w.heap.size, 1, none⟩ = some (.int .i64 b)) := hid (fun W a b h => ⟨by rw [((h.set_ 0 (.int .i64 a)).set_ 1 (.int .i64 b)).cell]; rfl, by rw [((h.set_ 0 (.int .i64 a)).set_ 1 (.int .i64 b)).cell]; rfl⟩)
  have T3 : Hid (∀ (W : World) (a b : Int), Dr B p w W → Dr B p w ((W.setCell ⟨w.heap.size, 0, none⟩ (.int .i64 a)).setCell ⟨w.heap.size, 1, none⟩ (.int .i64 b))) := hid (fun W a b h => (h.put (g := w.heap.size) (Nat.le_refl _) 0 (.int .i64 a)).put (g := w.heap.size) (Nat.le_refl _) 1 (.int .i64 b))
  by_cases h0 : k = 0
  · subst h0
    have b1 : Below w3.heap.size w3 (w3.alloc (.cells #[.int .i64 (-1), .int .i64 0, .int .i64 20, .int .i64 21, .int .i64 9223372036854775807] 3)) := (Below.refl _ _).alloc (Nat.le_refl _) _
    have D3 := hid (D2.out.below b1)
    have R3 := hid (R2.out.below b1 R2.out.lt)
    have X3 := hid (X2.out.below b1 X2.out.lt)
    have PL := D2.out.cur.lt
    clear b1 D2 R2 X2
    go_wp2_with fail
    refine (curPick_any p w3.heap.size 5 5 (-9223372036854775808) 9223372036854775807 _ D3.out.cur (by simp) (by omega) (by omega) (by omega) (fun k hk => ?_)).mono ?_
    · rw [cell_new _ _ _ _ _ rfl]
      have : k = 0 ∨ k = 1 ∨ k = 2 ∨ k = 3 ∨ k = 4 := by omega
      rcases this with rfl | rfl | rfl | rfl | rfl
      all_goals exact ⟨_, by decide, by decide, rfl⟩
    rintro e w4 ⟨z, z0, z1, rfl, hk, hg⟩
    have D4 := hid (D3.out.draw hk hg)
    have R4 := hid (D3.out.blk R3.out hg (Nat.le_refl _))
    have X4 := hid (D3.out.blk X3.out hg (by have := GE.out; omega))
    clear hk hg D3 R3 X3 PL z0 z1
    obtain ⟨u0, u1⟩ := T0.out _ _ _ X4.out
    have uf : w4.frozen? ⟨g, 0, none⟩ = false := X4.out.frozen 0
    have D5 := hid (D4.out.put (g := g) (by have := GE.out; omega) 0 (.int .i64 z))
    have hne : w.heap.size ≠ g := by have := GE.out; omega
    have R5 : Hid (Blk (w4.setCell ⟨g, 0, none⟩ (.int .i64 z)) w.heap.size 38 #[.int .i64 0, .int .i64 0]) := hid ((Below.heap_setCell w4 ⟨g, 0, none⟩ (.int .i64 z) w.heap.size hne).trans R4.out)
    have X5 : Hid (Blk (w4.setCell ⟨g, 0, none⟩ (.int .i64 z)) g 38 #[.int .i64 z, .int .i64 y]) := hid (X4.out.set_ 0 (.int .i64 z))
    clear D4 R4 X4
    obtain ⟨v0, v1⟩ := T0.out _ _ _ X5.out
    obtain ⟨r0, r1, f0, f1⟩ := T1.out _ R5.out
    obtain ⟨t0, t1⟩ := T2.out _ z y R5.out
    have D6 := hid (T3.out _ z y D5.out)
    clear D5
    go_wp2
    exact bodyPost_ret (v := .agg #[.int .i64 z, .int .i64 y]) (by simp [results, Try.results29, go_sem, t0, t1]) rfl ⟨_, _, rfl, D6.out⟩
  by_cases h1 : k = 1
  · subst h1
    have b1 : Below w3.heap.size w3 (w3.alloc (.cells #[.int .i64 (-1), .int .i64 0, .int .i64 20, .int .i64 21, .int .i64 (-9223372036854775808)] 3)) := (Below.refl _ _).alloc (Nat.le_refl _) _
    have D3 := hid (D2.out.below b1)
    have R3 := hid (R2.out.below b1 R2.out.lt)
    have X3 := hid (X2.out.below b1 X2.out.lt)
    have PL := D2.out.cur.lt
    clear b1 D2 R2 X2
    go_wp2_with fail
    refine (curPick_any p w3.heap.size 5 5 (-9223372036854775808) 9223372036854775807 _ D3.out.cur (by simp) (by omega) (by omega) (by omega) (fun k hk => ?_)).mono ?_
    · rw [cell_new _ _ _ _ _ rfl]
      have : k = 0 ∨ k = 1 ∨ k = 2 ∨ k = 3 ∨ k = 4 := by omega
      rcases this with rfl | rfl | rfl | rfl | rfl
      all_goals exact ⟨_, by decide, by decide, rfl⟩
    rintro e w4 ⟨z, z0, z1, rfl, hk, hg⟩
    have D4 := hid (D3.out.draw hk hg)
    have R4 := hid (D3.out.blk R3.out hg (Nat.le_refl _))
    have X4 := hid (D3.out.blk X3.out hg (by have := GE.out; omega))
    clear hk hg D3 R3 X3 PL z0 z1
    obtain ⟨u0, u1⟩ := T0.out _ _ _ X4.out
    have uf : w4.frozen? ⟨g, 1, none⟩ = false := X4.out.frozen 1
    have D5 := hid (D4.out.put (g := g) (by have := GE.out; omega) 1 (.int .i64 z))
    have hne : w.heap.size ≠ g := by have := GE.out; omega
    have R5 : Hid (Blk (w4.setCell ⟨g, 1, none⟩ (.int .i64 z)) w.heap.size 38 #[.int .i64 0, .int .i64 0]) := hid ((Below.heap_setCell w4 ⟨g, 1, none⟩ (.int .i64 z) w.heap.size hne).trans R4.out)
    have X5 : Hid (Blk (w4.setCell ⟨g, 1, none⟩ (.int .i64 z)) g 38 #[.int .i64 x, .int .i64 z]) := hid (X4.out.set_ 1 (.int .i64 z))
    clear D4 R4 X4
    obtain ⟨v0, v1⟩ := T0.out _ _ _ X5.out
    obtain ⟨r0, r1, f0, f1⟩ := T1.out _ R5.out
    obtain ⟨t0, t1⟩ := T2.out _ x z R5.out
    have D6 := hid (T3.out _ x z D5.out)
    clear D5
    go_wp2
    exact bodyPost_ret (v := .agg #[.int .i64 x, .int .i64 z]) (by simp [results, Try.results29, go_sem, t0, t1]) rfl ⟨_, _, rfl, D6.out⟩
  have hb0 : (k == 0) = false := by simpa using h0
  have hb1 : (k == 1) = false := by simpa using h1
  obtain ⟨u0, u1⟩ := T0.out _ _ _ X2.out
  obtain ⟨r0, r1, f0, f1⟩ := T1.out _ R2.out
  obtain ⟨t0, t1⟩ := T2.out _ x y R2.out
  have D3 := hid (T3.out _ x y D2.out)
  clear D2
  go_wp2
  exact bodyPost_ret (v := .agg #[.int .i64 x, .int .i64 y]) (by simp [results, Try.results29, go_sem, t0, t1]) rfl ⟨_, _, rfl, D3.out⟩
end Go.Proofs.Ytbijbohkpjnjnaa.Bd
namespace Go.Proofs.Ytbijbohkpjnjnaa
open Go.ChangeShapes Go.WideShapes Go.ChangeAt Go.RowKit
theorem Blk.putTwo {w : World} {g : Nat} {T : TypeId} {u v : Value} (h : Blk w g T #[u, v]) (x y : Value) : Blk ((w.setCell ⟨g, 0, none⟩ x).setCell ⟨g, 1, none⟩ y) g T #[x, y] := (h.set_ 0 x).set_ 1 y
theorem Blk.pastTwo {w : World} {g h : Nat} {T : TypeId} {cs : Array Value} (k : Blk w g T cs) (hne : g ≠ h) (x y : Value) : Blk ((w.setCell ⟨h, 0, none⟩ x).setCell ⟨h, 1, none⟩ y) g T cs := by
  have a : Blk (w.setCell ⟨h, 0, none⟩ x) g T cs := (Below.heap_setCell w ⟨h, 0, none⟩ x g hne).trans k
  exact (Below.heap_setCell _ ⟨h, 1, none⟩ y g hne).trans a
theorem OwnR.head {B g n c : Nat} {T : TypeId} {w : World} {a b : Int} {t : List (Int × Int)} (h : OwnR B T w (.slice (some ⟨g, 0, none⟩) n c) ((a, b) :: t)) (x y : Int) :
    OwnR B T ((w.setCell ⟨g, 0, none⟩ (.int .i64 x)).setCell ⟨g, 1, none⟩ (.int .i64 y)) (.slice (some ⟨g, 0, none⟩) n c) ((x, y) :: t) := by
  obtain ⟨A, c', e⟩ := OwnR.form h
  injection e with _ e2 _
  obtain ⟨h1, h2⟩ := h
  rw [← e2] at h1
  have k := (World.ownsRow.stored ((World.ownsRow.stored h1 0 (.int .i64 x)).1) 1 (.int .i64 y)).1
  have q : ((flat ((a, b) :: t)).set 0 (.int .i64 x)).set 1 (.int .i64 y) = flat ((x, y) :: t) := rfl
  rw [q, e2] at k
  refine ⟨?_, h2⟩
  have e3 : ((x, y) :: t).length = ((a, b) :: t).length := rfl
  rw [e3, e2]
  exact k
theorem OwnR.some {B : Nat} {T : TypeId} {w : World} {v : Value} {ns : List (Int × Int)} (h : OwnR B T w v ns) (hn : 1 ≤ ns.length) : ∃ g c, v = .slice (some ⟨g, 0, none⟩) ns.length c ∧ B ≤ g ∧ g < w.heap.size ∧ (∀ j, w.frozen? ⟨g, j, none⟩ = false) := by
  obtain ⟨h1, h2⟩ := h
  have h3 := h1.2
  rcases h3 with ⟨a, b⟩ | ⟨g, cap, cur, a, b, c, d, e, f, k⟩
  · omega
  · subst a
    exact ⟨g, cap, rfl, b, (World.ownsRow.lt h1 g rfl).2, fun j => World.ownsRow.frozenAt h1 j⟩
end Go.Proofs.Ytbijbohkpjnjnaa
namespace Go.Proofs.Ytbijbohkpjnjnaa.Bd
open Go.ChangeShapes Go.WideShapes Go.ChangeAt Go.RowKit
set_option maxHeartbeats 4000000
set_option maxRecDepth 100000
set_option linter.unusedSimpArgs false
set_option linter.unusedVariables false
def DrawAnyL {B : Nat} (p : Nat) (w : World) (e : Ending) (w' : World) : Prop := ∃ v ns x y, e = .returned (.tuple #[v, .agg #[.int .i64 x, .int .i64 y]]) ∧ OwnR w.heap.size 38 w' v ns ∧ 2 ≤ ns.length ∧ ns.length ≤ 7 ∧ Dr B p w w'
theorem drawAnyL_any (B p : Nat) (w : World) (H : Cur B w p) (hB : B ≤ w.heap.size) : Calls Try.prog 14 #[.pointer (some ⟨p, 0, none⟩)] w (DrawAnyL (B := B) p w) := by
  have D0 := hid ((Dr.start H hB).alloc (.cells #[.int .i64 0, .int .i64 0] 30))
  have R0 := hid (Blk.new w 30 #[.int .i64 0, .int .i64 0])
  clear H
  go_enter Try.func14, Try.ntmps14
  go_wp2_with fail
  refine (drawNs_any B p _ D0.out.cur (by simp; omega)).mono ?_
  rintro e w1 ⟨v, ns, rfl, ho, n2, n7, hd⟩
  have D1 := hid (D0.out.draw hd.cur hd.grow)
  have R1 := hid (D0.out.blk R0.out hd.grow (Nat.le_refl _))
  have OO := hid ho
  obtain ⟨gr, cr, rfl, g1, g2, g3⟩ := OwnR.some ho (by omega)
  simp only [World.alloc, Array.size_push] at g1
  have GR := hid (show w.heap.size < gr by omega)
  clear hd ho D0 R0 g1 g2 g3
  go_wp2_with fail
  refine (drawLead_any B p (ns.length : Int) _ D1.out.cur (by have := D1.out.size; omega) (by omega) (by omega)).mono ?_
  rintro e w2 ⟨x, y, rfl, hd⟩
  have a1 : ∀ (W : World) (o : Obj), Below W.heap.size W (W.alloc o) := fun W o => (Below.refl _ _).alloc (Nat.le_refl _) o
  have D2 := hid ((D1.out.draw hd.cur hd.grow).alloc (.cells #[.int .i64 x, .int .i64 y] 30))
  have R2 := hid ((D1.out.blk R1.out hd.grow (Nat.le_refl _)).below (a1 w2 (.cells #[.int .i64 x, .int .i64 y] 30)) (D1.out.blk R1.out hd.grow (Nat.le_refl _)).lt)
  have O2 := hid ((OO.out.past hd.grow (by have := D1.out.lt; simp; omega)).below (a1 w2 (.cells #[.int .i64 x, .int .i64 y] 30)))
  have X2 := hid (Blk.new w2 30 #[.int .i64 x, .int .i64 y])
  have GE : Hid (gr < w2.heap.size) := hid (by have := (World.ownsRow.lt OO.out.1 gr rfl).2; have := hd.grow.size; omega)
  clear hd OO D1 R1
  go_wp2_with fail
  generalize w2.heap.size = g at X2 GE ⊢
  generalize w2.alloc _ = w3 at D2 R2 O2 X2 ⊢
  refine (curBelow_any p 12 _ D2.out.cur (by omega) (by omega)).mono ?_
  rintro e w4 ⟨k, k0, k1, rfl, hk, hg⟩
  have D3 := hid (D2.out.draw hk hg)
  have R3 := hid (D2.out.blk R2.out hg (Nat.le_refl _))
  have X3 := hid (D2.out.blk X2.out hg (by have := GE.out; have := GR.out; omega))
  have O3 := hid (O2.out.past hg (by have := D2.out.lt; simp; omega))
  clear hk hg D2 R2 X2 O2 a1
  generalize hz0 : (w.alloc _).heap.size = z0 at O3
  have HZ := hid (show z0 = w.heap.size + 1 by rw [← hz0]; simp)
  clear hz0
  have T1 : Hid (∀ (W : World), Blk W w.heap.size 30 #[.int .i64 0, .int .i64 0] → W.cell? ⟨w.heap.size, 0, none⟩ = some (.int .i64 0) ∧ W.cell? ⟨w.heap.size, 1, none⟩ = some (.int .i64 0) ∧ W.frozen? ⟨w.heap.size, 0, none⟩ = false ∧ W.frozen? ⟨w.heap.size, 1, none⟩ = false) := hid (fun W h => ⟨by rw [h.cell]; rfl, by rw [h.cell]; rfl, h.frozen 0, h.frozen 1⟩)
  have T2 : Hid (∀ (W : World) (a b : Int), Blk W w.heap.size 30 #[.int .i64 0, .int .i64 0] → ((W.setCell ⟨w.heap.size, 0, none⟩ (.int .i64 a)).setCell ⟨w.heap.size, 1, none⟩ (.int .i64 b)).cell? ⟨w.heap.size, 0, none⟩ = some (.int .i64 a) ∧ ((W.setCell ⟨w.heap.size, 0, none⟩ (.int .i64 a)).setCell ⟨w.heap.size, 1, none⟩ (.int .i64 b)).cell? ⟨w.heap.size, 1, none⟩ = some (.int .i64 b)) := hid (fun W a b h => ⟨by rw [((h.set_ 0 (.int .i64 a)).set_ 1 (.int .i64 b)).cell]; rfl, by rw [((h.set_ 0 (.int .i64 a)).set_ 1 (.int .i64 b)).cell]; rfl⟩)
  have T3 : Hid (∀ (W : World) (a b : Int), Dr B p w W → Dr B p w ((W.setCell ⟨w.heap.size, 0, none⟩ (.int .i64 a)).setCell ⟨w.heap.size, 1, none⟩ (.int .i64 b))) := hid (fun W a b h => (h.put (g := w.heap.size) (Nat.le_refl _) 0 (.int .i64 a)).put (g := w.heap.size) (Nat.le_refl _) 1 (.int .i64 b))
  have T4 : Hid (∀ (W : World) (ms : List (Int × Int)) (a b : Int), OwnR z0 38 W (.slice (some ⟨gr, 0, none⟩) ns.length cr) ms → OwnR w.heap.size 38 ((W.setCell ⟨w.heap.size, 0, none⟩ (.int .i64 a)).setCell ⟨w.heap.size, 1, none⟩ (.int .i64 b)) (.slice (some ⟨gr, 0, none⟩) ns.length cr) ms) := hid (fun W ms a b h => (((OwnR.set_low h (by have := HZ.out; omega) 0 (.int .i64 a)).set_low (by have := HZ.out; omega) 1 (.int .i64 b))).less (by have := HZ.out; omega))
  by_cases h0 : k = 0
  · subst h0
    have b1 : Below w4.heap.size w4 (w4.alloc (.cells #[.int .i64 (-1), .int .i64 0, .int .i64 7] 3)) := (Below.refl _ _).alloc (Nat.le_refl _) _
    have D4 := hid (D3.out.below b1)
    have R4 := hid (R3.out.below b1 R3.out.lt)
    have X4 := hid (X3.out.below b1 X3.out.lt)
    have O4 := hid (O3.out.below b1)
    have PL := D3.out.cur.lt
    clear b1 D3 R3 X3 O3
    go_wp2_with fail
    refine (curPick_any p w4.heap.size 3 3 (-9223372036854775808) 9223372036854775807 _ D4.out.cur (by simp) (by omega) (by omega) (by omega) (fun k hk => ?_)).mono ?_
    · rw [cell_new _ _ _ _ _ rfl]
      have : k = 0 ∨ k = 1 ∨ k = 2 := by omega
      rcases this with rfl | rfl | rfl
      all_goals exact ⟨_, by decide, by decide, rfl⟩
    rintro e w5 ⟨z, z0', z1, rfl, hk, hg⟩
    have D5 := hid (D4.out.draw hk hg)
    have R5 := hid (D4.out.blk R4.out hg (Nat.le_refl _))
    have X5 := hid (D4.out.blk X4.out hg (by have := GE.out; have := GR.out; omega))
    have O5 := hid (O4.out.past hg (by have := D4.out.lt; have := HZ.out; omega))
    clear hk hg D4 R4 X4 O4 PL z0' z1
    have v0 : w5.cell? ⟨g, 0, none⟩ = some (.int .i64 x) := by rw [X5.out.cell]; rfl
    have uf : w5.frozen? ⟨g, 0, none⟩ = false := X5.out.frozen 0
    have D6 := hid (D5.out.put (g := g) (by have := GE.out; have := GR.out; omega) 0 (.int .i64 z))
    have hne : w.heap.size ≠ g := by have := GE.out; have := GR.out; omega
    have R6 : Hid (Blk (w5.setCell ⟨g, 0, none⟩ (.int .i64 z)) w.heap.size 30 #[.int .i64 0, .int .i64 0]) := hid ((Below.heap_setCell w5 ⟨g, 0, none⟩ (.int .i64 z) w.heap.size hne).trans R5.out)
    have X6 : Hid (Blk (w5.setCell ⟨g, 0, none⟩ (.int .i64 z)) g 30 #[.int .i64 z, .int .i64 y]) := hid (X5.out.set_ 0 (.int .i64 z))
    have O6 := hid (O5.out.set_far (World.ownsRow.other O5.out.1 X5.out (by decide)) 0 (.int .i64 z))
    clear D5 R5 X5 O5
    go_upto_region 10 with fail
    clear v0 uf
    generalize w5.setCell _ _ = w6 at D6 R6 X6 O6 ⊢
    go_wp2_with fail
    have hbd : Below w6.heap.size w6 w6.drew := (Below.refl _ _).drew
    have DE := hid (D6.out.below hbd)
    have RE := hid (R6.out.below hbd R6.out.lt)
    have XE := X6.out.below hbd X6.out.lt
    have OE := hid (O6.out.below hbd)
    clear hbd D6 R6 X6 O6
    have hne : w.heap.size ≠ g := by have := GE.out; have := GR.out; omega
    obtain ⟨S, hSd⟩ : ∃ S : World → Prop, S = fun W => Blk W g 30 #[.int .i64 z, .int .i64 y] := ⟨_, rfl⟩
    have hS : S w6.drew := by rw [hSd]; exact XE
    have CELLS : Hid (∀ W, S W → W.cell? ⟨g, 0, none⟩ = some (.int .i64 z) ∧ W.cell? ⟨g, 1, none⟩ = some (.int .i64 y)) := hid (fun W h => by rw [hSd] at h; exact ⟨by rw [h.cell]; rfl, by rw [h.cell]; rfl⟩)
    have ST : Hid (∀ W x y, S W → S ((W.setCell ⟨w.heap.size, 0, none⟩ x).setCell ⟨w.heap.size, 1, none⟩ y)) := hid (fun W x y h => by rw [hSd] at h ⊢; exact h.pastTwo (h := w.heap.size) (by omega) x y)
    have SU : Hid (∀ W W', S W → Below W.heap.size W W' → S W') := hid (fun W W' h hb => by rw [hSd] at h ⊢; exact h.below hb h.lt)
    clear hSd XE hne
    refine wm_start (S := S) (by kernel_rfl) hS ?_
    refine wm_take (i := 0) (v := ?_) rfl (by kernel_rfl) (by kernel_rfl) (by kernel_rfl) (fun _ _ _ h => h) (by kernel_rfl) ?_ ?_
    rotate_left
    (focus (intro w hSw; obtain ⟨z0, z1⟩ := CELLS.out _ hSw; go_simp; try with_reducible rfl))
    simp only [Act.put, List.setIfInBounds_toArray, List.set_cons_zero, List.set_cons_succ, List.getElem_toArray, List.getElem_cons_succ, List.getElem_cons_zero, Nat.reduceAdd]
    refine wm_take (i := 1) (v := ?_) rfl (by kernel_rfl) (by kernel_rfl) (by kernel_rfl) (fun _ _ _ h => h) (by kernel_rfl) ?_ ?_
    rotate_left
    (focus (intro w hSw; obtain ⟨z0, z1⟩ := CELLS.out _ hSw; go_simp; try with_reducible rfl))
    simp only [Act.put, List.setIfInBounds_toArray, List.set_cons_zero, List.set_cons_succ, List.getElem_toArray, List.getElem_cons_succ, List.getElem_cons_zero, Nat.reduceAdd]
    refine wm_take (i := 2) (v := ?_) rfl (by kernel_rfl) (by kernel_rfl) (by kernel_rfl) (fun _ _ _ h => h) (by kernel_rfl) ?_ ?_
    rotate_left
    (focus (intro w hSw; obtain ⟨z0, z1⟩ := CELLS.out _ hSw; go_simp; try with_reducible rfl))
    simp only [Act.put, List.setIfInBounds_toArray, List.set_cons_zero, List.set_cons_succ, List.getElem_toArray, List.getElem_cons_succ, List.getElem_cons_zero, Nat.reduceAdd]
    refine wm_each (l := [3]) (by kernel_rfl) (by simp) ?_
    intro v1 hv1 hS1
    replace DE := hid (DE.out.below hv1)
    replace RE := hid (RE.out.below hv1 RE.out.lt)
    replace OE := hid (OE.out.below hv1)
    obtain ⟨r0, r1, f0, f1⟩ := T1.out _ RE.out
    refine Each.cons rfl (fun K hK => ?_) Each.nil
    go_simp
    have hSn := ST.out v1 (.int .i64 z) (.int .i64 y) hS1
    have DF := hid (T3.out _ z y DE.out)
    have OF := hid (T4.out _ _ z y OE.out)
    have RF := hid (RE.out.putTwo (.int .i64 z) (.int .i64 y))
    clear DE RE OE r0 r1 f0 f1
    (try dsimp only)
    refine hK.out _ _ ⟨hSn, ?_⟩
    clear hK K
    (try simp only [Act.put, List.setIfInBounds_toArray, List.set_cons_zero, List.set_cons_succ, List.getElem_toArray, List.getElem_cons_succ, List.getElem_cons_zero, Nat.reduceAdd])
    generalize (World.setCell _ _ _).setCell _ _ = u1 at hSn DF OF RF ⊢
    refine wm_done (by kernel_rfl) ?_
    intro w9 hv9 hS9
    replace DF := hid (DF.out.below hv9)
    replace OF := hid (OF.out.below hv9)
    replace RF := hid (RF.out.below hv9 RF.out.lt)
    have t0 : w9.cell? ⟨w.heap.size, 0, none⟩ = some (.int .i64 z) := by rw [RF.out.cell]; rfl
    have t1 : w9.cell? ⟨w.heap.size, 1, none⟩ = some (.int .i64 y) := by rw [RF.out.cell]; rfl
    go_wp2
    exact bodyPost_ret (v := .tuple #[.slice (some ⟨gr, 0, none⟩) ns.length cr, .agg #[.int .i64 z, .int .i64 y]]) (by simp [results, Try.results14, go_sem, t0, t1]) rfl ⟨_, _, _, _, rfl, OF.out, n2, n7, DF.out⟩
  by_cases h1 : k = 1
  · subst h1
    have b1 : Below w4.heap.size w4 (w4.alloc (.cells #[.int .i64 (-1), .int .i64 0, .int .i64 7, .int .i64 8] 3)) := (Below.refl _ _).alloc (Nat.le_refl _) _
    have D4 := hid (D3.out.below b1)
    have R4 := hid (R3.out.below b1 R3.out.lt)
    have X4 := hid (X3.out.below b1 X3.out.lt)
    have O4 := hid (O3.out.below b1)
    have PL := D3.out.cur.lt
    clear b1 D3 R3 X3 O3
    go_wp2_with fail
    refine (curPick_any p w4.heap.size 4 4 (-9223372036854775808) 9223372036854775807 _ D4.out.cur (by simp) (by omega) (by omega) (by omega) (fun k hk => ?_)).mono ?_
    · rw [cell_new _ _ _ _ _ rfl]
      have : k = 0 ∨ k = 1 ∨ k = 2 ∨ k = 3 := by omega
      rcases this with rfl | rfl | rfl | rfl
      all_goals exact ⟨_, by decide, by decide, rfl⟩
    rintro e w5 ⟨z, z0', z1, rfl, hk, hg⟩
    have D5 := hid (D4.out.draw hk hg)
    have R5 := hid (D4.out.blk R4.out hg (Nat.le_refl _))
    have X5 := hid (D4.out.blk X4.out hg (by have := GE.out; have := GR.out; omega))
    have O5 := hid (O4.out.past hg (by have := D4.out.lt; have := HZ.out; omega))
    clear hk hg D4 R4 X4 O4 PL z0' z1
    have v0 : w5.cell? ⟨g, 1, none⟩ = some (.int .i64 y) := by rw [X5.out.cell]; rfl
    have uf : w5.frozen? ⟨g, 1, none⟩ = false := X5.out.frozen 1
    have D6 := hid (D5.out.put (g := g) (by have := GE.out; have := GR.out; omega) 1 (.int .i64 z))
    have hne : w.heap.size ≠ g := by have := GE.out; have := GR.out; omega
    have R6 : Hid (Blk (w5.setCell ⟨g, 1, none⟩ (.int .i64 z)) w.heap.size 30 #[.int .i64 0, .int .i64 0]) := hid ((Below.heap_setCell w5 ⟨g, 1, none⟩ (.int .i64 z) w.heap.size hne).trans R5.out)
    have X6 : Hid (Blk (w5.setCell ⟨g, 1, none⟩ (.int .i64 z)) g 30 #[.int .i64 x, .int .i64 z]) := hid (X5.out.set_ 1 (.int .i64 z))
    have O6 := hid (O5.out.set_far (World.ownsRow.other O5.out.1 X5.out (by decide)) 1 (.int .i64 z))
    clear D5 R5 X5 O5
    go_upto_region 10 with fail
    clear v0 uf
    generalize w5.setCell _ _ = w6 at D6 R6 X6 O6 ⊢
    go_wp2_with fail
    have hbd : Below w6.heap.size w6 w6.drew := (Below.refl _ _).drew
    have DE := hid (D6.out.below hbd)
    have RE := hid (R6.out.below hbd R6.out.lt)
    have XE := X6.out.below hbd X6.out.lt
    have OE := hid (O6.out.below hbd)
    clear hbd D6 R6 X6 O6
    have hne : w.heap.size ≠ g := by have := GE.out; have := GR.out; omega
    obtain ⟨S, hSd⟩ : ∃ S : World → Prop, S = fun W => Blk W g 30 #[.int .i64 x, .int .i64 z] := ⟨_, rfl⟩
    have hS : S w6.drew := by rw [hSd]; exact XE
    have CELLS : Hid (∀ W, S W → W.cell? ⟨g, 0, none⟩ = some (.int .i64 x) ∧ W.cell? ⟨g, 1, none⟩ = some (.int .i64 z)) := hid (fun W h => by rw [hSd] at h; exact ⟨by rw [h.cell]; rfl, by rw [h.cell]; rfl⟩)
    have ST : Hid (∀ W x y, S W → S ((W.setCell ⟨w.heap.size, 0, none⟩ x).setCell ⟨w.heap.size, 1, none⟩ y)) := hid (fun W x y h => by rw [hSd] at h ⊢; exact h.pastTwo (h := w.heap.size) (by omega) x y)
    have SU : Hid (∀ W W', S W → Below W.heap.size W W' → S W') := hid (fun W W' h hb => by rw [hSd] at h ⊢; exact h.below hb h.lt)
    clear hSd XE hne
    refine wm_start (S := S) (by kernel_rfl) hS ?_
    refine wm_take (i := 0) (v := ?_) rfl (by kernel_rfl) (by kernel_rfl) (by kernel_rfl) (fun _ _ _ h => h) (by kernel_rfl) ?_ ?_
    rotate_left
    (focus (intro w hSw; obtain ⟨z0, z1⟩ := CELLS.out _ hSw; go_simp; try with_reducible rfl))
    simp only [Act.put, List.setIfInBounds_toArray, List.set_cons_zero, List.set_cons_succ, List.getElem_toArray, List.getElem_cons_succ, List.getElem_cons_zero, Nat.reduceAdd]
    refine wm_take (i := 1) (v := ?_) rfl (by kernel_rfl) (by kernel_rfl) (by kernel_rfl) (fun _ _ _ h => h) (by kernel_rfl) ?_ ?_
    rotate_left
    (focus (intro w hSw; obtain ⟨z0, z1⟩ := CELLS.out _ hSw; go_simp; try with_reducible rfl))
    simp only [Act.put, List.setIfInBounds_toArray, List.set_cons_zero, List.set_cons_succ, List.getElem_toArray, List.getElem_cons_succ, List.getElem_cons_zero, Nat.reduceAdd]
    refine wm_take (i := 2) (v := ?_) rfl (by kernel_rfl) (by kernel_rfl) (by kernel_rfl) (fun _ _ _ h => h) (by kernel_rfl) ?_ ?_
    rotate_left
    (focus (intro w hSw; obtain ⟨z0, z1⟩ := CELLS.out _ hSw; go_simp; try with_reducible rfl))
    simp only [Act.put, List.setIfInBounds_toArray, List.set_cons_zero, List.set_cons_succ, List.getElem_toArray, List.getElem_cons_succ, List.getElem_cons_zero, Nat.reduceAdd]
    refine wm_each (l := [3]) (by kernel_rfl) (by simp) ?_
    intro v1 hv1 hS1
    replace DE := hid (DE.out.below hv1)
    replace RE := hid (RE.out.below hv1 RE.out.lt)
    replace OE := hid (OE.out.below hv1)
    obtain ⟨r0, r1, f0, f1⟩ := T1.out _ RE.out
    refine Each.cons rfl (fun K hK => ?_) Each.nil
    go_simp
    have hSn := ST.out v1 (.int .i64 x) (.int .i64 z) hS1
    have DF := hid (T3.out _ x z DE.out)
    have OF := hid (T4.out _ _ x z OE.out)
    have RF := hid (RE.out.putTwo (.int .i64 x) (.int .i64 z))
    clear DE RE OE r0 r1 f0 f1
    (try dsimp only)
    refine hK.out _ _ ⟨hSn, ?_⟩
    clear hK K
    (try simp only [Act.put, List.setIfInBounds_toArray, List.set_cons_zero, List.set_cons_succ, List.getElem_toArray, List.getElem_cons_succ, List.getElem_cons_zero, Nat.reduceAdd])
    generalize (World.setCell _ _ _).setCell _ _ = u1 at hSn DF OF RF ⊢
    refine wm_done (by kernel_rfl) ?_
    intro w9 hv9 hS9
    replace DF := hid (DF.out.below hv9)
    replace OF := hid (OF.out.below hv9)
    replace RF := hid (RF.out.below hv9 RF.out.lt)
    have t0 : w9.cell? ⟨w.heap.size, 0, none⟩ = some (.int .i64 x) := by rw [RF.out.cell]; rfl
    have t1 : w9.cell? ⟨w.heap.size, 1, none⟩ = some (.int .i64 z) := by rw [RF.out.cell]; rfl
    go_wp2
    exact bodyPost_ret (v := .tuple #[.slice (some ⟨gr, 0, none⟩) ns.length cr, .agg #[.int .i64 x, .int .i64 z]]) (by simp [results, Try.results14, go_sem, t0, t1]) rfl ⟨_, _, _, _, rfl, OF.out, n2, n7, DF.out⟩
  by_cases h2 : k = 2
  · subst h2
    go_wp2_with fail
    refine (drawAny_any B p _ D3.out.cur (by have := D3.out.size; have := D3.out.lo; omega)).mono ?_
    rintro e w5 ⟨a, b, rfl, hd⟩
    have D5 := hid (D3.out.draw hd.cur hd.grow)
    have R5 := hid (D3.out.blk R3.out hd.grow (Nat.le_refl _))
    have X5 := hid (D3.out.blk X3.out hd.grow (by have := GE.out; have := GR.out; omega))
    have O5 := O3.out.past hd.grow (by have := D3.out.lt; have := HZ.out; omega)
    clear hd D3 R3 X3 O3
    cases ns with
    | nil => simp at n2
    | cons q t =>
    obtain ⟨qx, qy⟩ := q
    have O5' := hid O5
    have c0 : w5.cell? ⟨gr, 0, none⟩ = some (.int .i64 qx) := by rw [World.ownsRow.cellAt O5.1 0 (by simp)]; rfl
    have c1 : w5.cell? ⟨gr, 1, none⟩ = some (.int .i64 qy) := by rw [World.ownsRow.cellAt O5.1 1 (by simp; omega)]; rfl
    have f0 : w5.frozen? ⟨gr, 0, none⟩ = false := World.ownsRow.frozenAt O5.1 0
    have f1 : w5.frozen? ⟨gr, 1, none⟩ = false := World.ownsRow.frozenAt O5.1 1
    have hgw := GR.out
    have hgg := GE.out
    have D6 := hid ((D5.out.put (g := gr) (by omega) 0 (.int .i64 a)).put (g := gr) (by omega) 1 (.int .i64 b))
    have R6 : Hid (Blk ((w5.setCell ⟨gr, 0, none⟩ (.int .i64 a)).setCell ⟨gr, 1, none⟩ (.int .i64 b)) w.heap.size 30 #[.int .i64 0, .int .i64 0]) := hid ((Below.heap_setCell _ ⟨gr, 1, none⟩ (.int .i64 b) w.heap.size (by show w.heap.size ≠ gr; omega)).trans ((Below.heap_setCell w5 ⟨gr, 0, none⟩ (.int .i64 a) w.heap.size (by show w.heap.size ≠ gr; omega)).trans R5.out))
    have X6 : Hid (Blk ((w5.setCell ⟨gr, 0, none⟩ (.int .i64 a)).setCell ⟨gr, 1, none⟩ (.int .i64 b)) g 30 #[.int .i64 x, .int .i64 y]) := hid ((Below.heap_setCell _ ⟨gr, 1, none⟩ (.int .i64 b) g (by show g ≠ gr; omega)).trans ((Below.heap_setCell w5 ⟨gr, 0, none⟩ (.int .i64 a) g (by show g ≠ gr; omega)).trans X5.out))
    have O6 := hid (OwnR.head O5 a b)
    clear O5 O5' D5 R5 X5 hgw hgg
    have hpos : (0 : Int) < (((qx, qy) :: t).length : Int) := by simp <;> omega
    go_upto_region 10 with fail
    clear c0 c1 f0 f1 hpos
    generalize (w5.setCell _ _).setCell _ _ = w6 at D6 R6 X6 O6 ⊢
    go_wp2_with fail
    have hbd : Below w6.heap.size w6 w6.drew := (Below.refl _ _).drew
    have DE := hid (D6.out.below hbd)
    have RE := hid (R6.out.below hbd R6.out.lt)
    have XE := X6.out.below hbd X6.out.lt
    have OE := hid (O6.out.below hbd)
    clear hbd D6 R6 X6 O6
    have hne : w.heap.size ≠ g := by have := GE.out; have := GR.out; omega
    obtain ⟨S, hSd⟩ : ∃ S : World → Prop, S = fun W => Blk W g 30 #[.int .i64 x, .int .i64 y] := ⟨_, rfl⟩
    have hS : S w6.drew := by rw [hSd]; exact XE
    have CELLS : Hid (∀ W, S W → W.cell? ⟨g, 0, none⟩ = some (.int .i64 x) ∧ W.cell? ⟨g, 1, none⟩ = some (.int .i64 y)) := hid (fun W h => by rw [hSd] at h; exact ⟨by rw [h.cell]; rfl, by rw [h.cell]; rfl⟩)
    have ST : Hid (∀ W x y, S W → S ((W.setCell ⟨w.heap.size, 0, none⟩ x).setCell ⟨w.heap.size, 1, none⟩ y)) := hid (fun W x y h => by rw [hSd] at h ⊢; exact h.pastTwo (h := w.heap.size) (by omega) x y)
    have SU : Hid (∀ W W', S W → Below W.heap.size W W' → S W') := hid (fun W W' h hb => by rw [hSd] at h ⊢; exact h.below hb h.lt)
    clear hSd XE hne
    refine wm_start (S := S) (by kernel_rfl) hS ?_
    refine wm_take (i := 0) (v := ?_) rfl (by kernel_rfl) (by kernel_rfl) (by kernel_rfl) (fun _ _ _ h => h) (by kernel_rfl) ?_ ?_
    rotate_left
    (focus (intro w hSw; obtain ⟨z0, z1⟩ := CELLS.out _ hSw; go_simp; try with_reducible rfl))
    simp only [Act.put, List.setIfInBounds_toArray, List.set_cons_zero, List.set_cons_succ, List.getElem_toArray, List.getElem_cons_succ, List.getElem_cons_zero, Nat.reduceAdd]
    refine wm_take (i := 1) (v := ?_) rfl (by kernel_rfl) (by kernel_rfl) (by kernel_rfl) (fun _ _ _ h => h) (by kernel_rfl) ?_ ?_
    rotate_left
    (focus (intro w hSw; obtain ⟨z0, z1⟩ := CELLS.out _ hSw; go_simp; try with_reducible rfl))
    simp only [Act.put, List.setIfInBounds_toArray, List.set_cons_zero, List.set_cons_succ, List.getElem_toArray, List.getElem_cons_succ, List.getElem_cons_zero, Nat.reduceAdd]
    refine wm_take (i := 2) (v := ?_) rfl (by kernel_rfl) (by kernel_rfl) (by kernel_rfl) (fun _ _ _ h => h) (by kernel_rfl) ?_ ?_
    rotate_left
    (focus (intro w hSw; obtain ⟨z0, z1⟩ := CELLS.out _ hSw; go_simp; try with_reducible rfl))
    simp only [Act.put, List.setIfInBounds_toArray, List.set_cons_zero, List.set_cons_succ, List.getElem_toArray, List.getElem_cons_succ, List.getElem_cons_zero, Nat.reduceAdd]
    refine wm_each (l := [3]) (by kernel_rfl) (by simp) ?_
    intro v1 hv1 hS1
    replace DE := hid (DE.out.below hv1)
    replace RE := hid (RE.out.below hv1 RE.out.lt)
    replace OE := hid (OE.out.below hv1)
    obtain ⟨r0, r1, f0, f1⟩ := T1.out _ RE.out
    refine Each.cons rfl (fun K hK => ?_) Each.nil
    go_simp
    have hSn := ST.out v1 (.int .i64 x) (.int .i64 y) hS1
    have DF := hid (T3.out _ x y DE.out)
    have OF := hid (T4.out _ _ x y OE.out)
    have RF := hid (RE.out.putTwo (.int .i64 x) (.int .i64 y))
    clear DE RE OE r0 r1 f0 f1
    (try dsimp only)
    refine hK.out _ _ ⟨hSn, ?_⟩
    clear hK K
    (try simp only [Act.put, List.setIfInBounds_toArray, List.set_cons_zero, List.set_cons_succ, List.getElem_toArray, List.getElem_cons_succ, List.getElem_cons_zero, Nat.reduceAdd])
    generalize (World.setCell _ _ _).setCell _ _ = u1 at hSn DF OF RF ⊢
    refine wm_done (by kernel_rfl) ?_
    intro w9 hv9 hS9
    replace DF := hid (DF.out.below hv9)
    replace OF := hid (OF.out.below hv9)
    replace RF := hid (RF.out.below hv9 RF.out.lt)
    have t0 : w9.cell? ⟨w.heap.size, 0, none⟩ = some (.int .i64 x) := by rw [RF.out.cell]; rfl
    have t1 : w9.cell? ⟨w.heap.size, 1, none⟩ = some (.int .i64 y) := by rw [RF.out.cell]; rfl
    go_wp2
    exact bodyPost_ret (v := .tuple #[.slice (some ⟨gr, 0, none⟩) ((qx, qy) :: t).length cr, .agg #[.int .i64 x, .int .i64 y]]) (by simp [results, Try.results14, go_sem, t0, t1]) rfl ⟨_, _, _, _, rfl, OF.out, n2, n7, DF.out⟩
  have hb0 : (k == 0) = false := by simpa using h0
  have hb1 : (k == 1) = false := by simpa using h1
  have hb2 : (k == 2) = false := by simpa using h2
  go_upto_region 10 with fail
  go_wp2_with fail
  have hbd : Below w4.heap.size w4 w4.drew := (Below.refl _ _).drew
  have DE := hid (D3.out.below hbd)
  have RE := hid (R3.out.below hbd R3.out.lt)
  have XE := X3.out.below hbd X3.out.lt
  have OE := hid (O3.out.below hbd)
  clear hbd D3 R3 X3 O3
  have hne : w.heap.size ≠ g := by have := GE.out; have := GR.out; omega
  obtain ⟨S, hSd⟩ : ∃ S : World → Prop, S = fun W => Blk W g 30 #[.int .i64 x, .int .i64 y] := ⟨_, rfl⟩
  have hS : S w4.drew := by rw [hSd]; exact XE
  have CELLS : Hid (∀ W, S W → W.cell? ⟨g, 0, none⟩ = some (.int .i64 x) ∧ W.cell? ⟨g, 1, none⟩ = some (.int .i64 y)) := hid (fun W h => by rw [hSd] at h; exact ⟨by rw [h.cell]; rfl, by rw [h.cell]; rfl⟩)
  have ST : Hid (∀ W x y, S W → S ((W.setCell ⟨w.heap.size, 0, none⟩ x).setCell ⟨w.heap.size, 1, none⟩ y)) := hid (fun W x y h => by rw [hSd] at h ⊢; exact h.pastTwo (h := w.heap.size) (by omega) x y)
  have SU : Hid (∀ W W', S W → Below W.heap.size W W' → S W') := hid (fun W W' h hb => by rw [hSd] at h ⊢; exact h.below hb h.lt)
  clear hSd XE hne
  refine wm_start (S := S) (by kernel_rfl) hS ?_
  refine wm_take (i := 0) (v := ?_) rfl (by kernel_rfl) (by kernel_rfl) (by kernel_rfl) (fun _ _ _ h => h) (by kernel_rfl) ?_ ?_
  rotate_left
  (focus (intro w hSw; obtain ⟨z0, z1⟩ := CELLS.out _ hSw; go_simp; try with_reducible rfl))
  simp only [Act.put, List.setIfInBounds_toArray, List.set_cons_zero, List.set_cons_succ, List.getElem_toArray, List.getElem_cons_succ, List.getElem_cons_zero, Nat.reduceAdd]
  refine wm_take (i := 1) (v := ?_) rfl (by kernel_rfl) (by kernel_rfl) (by kernel_rfl) (fun _ _ _ h => h) (by kernel_rfl) ?_ ?_
  rotate_left
  (focus (intro w hSw; obtain ⟨z0, z1⟩ := CELLS.out _ hSw; go_simp; try with_reducible rfl))
  simp only [Act.put, List.setIfInBounds_toArray, List.set_cons_zero, List.set_cons_succ, List.getElem_toArray, List.getElem_cons_succ, List.getElem_cons_zero, Nat.reduceAdd]
  refine wm_take (i := 2) (v := ?_) rfl (by kernel_rfl) (by kernel_rfl) (by kernel_rfl) (fun _ _ _ h => h) (by kernel_rfl) ?_ ?_
  rotate_left
  (focus (intro w hSw; obtain ⟨z0, z1⟩ := CELLS.out _ hSw; go_simp; try with_reducible rfl))
  simp only [Act.put, List.setIfInBounds_toArray, List.set_cons_zero, List.set_cons_succ, List.getElem_toArray, List.getElem_cons_succ, List.getElem_cons_zero, Nat.reduceAdd]
  refine wm_each (l := [3]) (by kernel_rfl) (by simp) ?_
  intro v1 hv1 hS1
  replace DE := hid (DE.out.below hv1)
  replace RE := hid (RE.out.below hv1 RE.out.lt)
  replace OE := hid (OE.out.below hv1)
  obtain ⟨r0, r1, f0, f1⟩ := T1.out _ RE.out
  refine Each.cons rfl (fun K hK => ?_) Each.nil
  go_simp
  have hSn := ST.out v1 (.int .i64 x) (.int .i64 y) hS1
  have DF := hid (T3.out _ x y DE.out)
  have OF := hid (T4.out _ _ x y OE.out)
  have RF := hid (RE.out.putTwo (.int .i64 x) (.int .i64 y))
  clear DE RE OE r0 r1 f0 f1
  (try dsimp only)
  refine hK.out _ _ ⟨hSn, ?_⟩
  clear hK K
  (try simp only [Act.put, List.setIfInBounds_toArray, List.set_cons_zero, List.set_cons_succ, List.getElem_toArray, List.getElem_cons_succ, List.getElem_cons_zero, Nat.reduceAdd])
  generalize (World.setCell _ _ _).setCell _ _ = u1 at hSn DF OF RF ⊢
  refine wm_done (by kernel_rfl) ?_
  intro w9 hv9 hS9
  replace DF := hid (DF.out.below hv9)
  replace OF := hid (OF.out.below hv9)
  replace RF := hid (RF.out.below hv9 RF.out.lt)
  have t0 : w9.cell? ⟨w.heap.size, 0, none⟩ = some (.int .i64 x) := by rw [RF.out.cell]; rfl
  have t1 : w9.cell? ⟨w.heap.size, 1, none⟩ = some (.int .i64 y) := by rw [RF.out.cell]; rfl
  go_wp2
  exact bodyPost_ret (v := .tuple #[.slice (some ⟨gr, 0, none⟩) ns.length cr, .agg #[.int .i64 x, .int .i64 y]]) (by simp [results, Try.results14, go_sem, t0, t1]) rfl ⟨_, _, _, _, rfl, OF.out, n2, n7, DF.out⟩
/-- nodes and two leads, whatever they are -/
def DrawTwoL (w : World) (e : Ending) (w' : World) : Prop := ∃ v ns a b c d, e = .returned (.tuple #[v, .agg #[.int .i64 a, .int .i64 b], .agg #[.int .i64 c, .int .i64 d]]) ∧ OwnR w.heap.size 38 w' v ns ∧ Below w.heap.size w w'
theorem drawDoCross_any (A : Option Addr) (n c : Nat) (w : World) (hb : LoBytes w A n) (hn : n ≤ 1048576) : Calls Try.prog 6 #[.slice A n c] w (DrawTwoL w) := by
  obtain ⟨W0, hW0⟩ : ∃ W : World, W = (w.alloc (.cells #[.int .i64 0, .int .i64 0] 30)).alloc (.cells #[.int .i64 0, .int .i64 0] 30) := ⟨_, rfl⟩
  have s0 : Below w.heap.size w W0 := by rw [hW0]; exact ((Below.refl _ _).alloc (Nat.le_refl _) _).alloc (by simp) _
  have z0 : W0.heap.size = w.heap.size + 2 := by rw [hW0]; simp
  have R3 : Hid (Blk W0 w.heap.size 30 #[.int .i64 0, .int .i64 0]) := hid (by
    rw [hW0]; exact (Blk.new w 30 _).below ((Below.refl _ _).alloc (Nat.le_refl _) _) (by simp))
  have R4 : Hid (Blk W0 (w.heap.size + 1) 30 #[.int .i64 0, .int .i64 0]) := hid (by
    have h := Blk.new (w.alloc (.cells #[.int .i64 0, .int .i64 0] 30)) 30 #[.int .i64 0, .int .i64 0]
    rw [show (w.alloc (.cells #[.int .i64 0, .int .i64 0] 30)).heap.size = w.heap.size + 1 by simp] at h
    rw [hW0]; exact h)
  have LW : Hid (Low w.heap.size A n) := hid (fun k hk => by obtain ⟨b, off, x, e1, e2, _⟩ := hb k hk; exact ⟨b, off, e1, e2⟩)
  have LB := hid (hb.below s0)
  have B0 := hid s0
  clear hb s0
  go_enter Try.func6, Try.ntmps6
  go_wp2_with fail
  rw [← hW0]
  clear hW0
  refine (curNew_any (B := w.heap.size) A n c _ LB.out LW.out hn).mono ?_
  rintro e w1 ⟨p, rfl, hp, hc, hb⟩
  have K1 := hid hc
  have B1 := hid (then_ B0.out hb B0.out.size)
  replace R3 := hid (R3.out.below hb R3.out.lt)
  replace R4 := hid (R4.out.below hb R4.out.lt)
  clear hc hb LB LW B0
  go_wp2_with fail
  refine (drawAnyL_any w.heap.size p _ K1.out B1.out.size).mono ?_
  rintro e w2 ⟨v, ns, ax, ay, rfl, ho, n2, n7, hd⟩
  have hg := hd.grow
  have b6 : Below w2.heap.size w2 (w2.alloc (.cells #[.int .i64 ax, .int .i64 ay] 30)) := (Below.refl _ _).alloc (Nat.le_refl _) _
  have s12 := hg.size
  have B2 := hid (then_ (B1.out.grown hg B1.out.size (fun g hg => by cases hg; omega)) b6 (Nat.le_trans B1.out.size hg.size))
  replace R3 := hid ((R3.out.grow hg (fun e => by have := Option.some.inj e; omega)).below b6 (by have := R3.out.lt; omega))
  replace R4 := hid ((R4.out.grow hg (fun e => by have := Option.some.inj e; omega)).below b6 (by have := R4.out.lt; omega))
  have K2 := hid (hd.cur.below b6)
  have X6 := hid (Blk.new w2 30 #[.int .i64 ax, .int .i64 ay])
  have O2 := hid (ho.below b6)
  obtain ⟨gr, cr, rfl, g1, g2, g3⟩ := OwnR.some ho (by omega)
  have g6p := hd.cur.lt
  have plt := hd.lt
  have s1 : w.heap.size + 2 ≤ w1.heap.size := by have := R4.out.lt; have := hd.lt; omega
  clear hd ho hg b6 K1 B1 g3
  go_wp2_with fail
  generalize hg6 : w2.heap.size = g6 at X6 g6p s12 g2 ⊢
  have G6 := hid (show p < g6 ∧ w.heap.size + 2 ≤ g6 ∧ w.heap.size + 2 ≤ p ∧ w.heap.size + 2 ≤ gr ∧ gr < g6 by omega)
  clear hg6
  generalize w2.alloc _ = w5 at R3 R4 K2 X6 B2 O2 ⊢
  generalize hwz : w1.heap.size = wz at O2 s1 plt
  have WZ := hid (show w.heap.size + 2 ≤ wz ∧ p < wz by omega)
  clear g6p s12 s1 z0 hp g1 g2 hwz plt
  obtain ⟨S, hSd⟩ : ∃ S : World → Prop, S = fun W => Cur w.heap.size W p ∧ Below w.heap.size w W ∧ Blk W g6 30 #[.int .i64 ax, .int .i64 ay] ∧ OwnR wz 38 W (.slice (some ⟨gr, 0, none⟩) ns.length cr) ns := ⟨_, rfl⟩
  have hS : S w5 := by rw [hSd]; exact ⟨K2.out, B2.out, X6.out, O2.out⟩
  have SC : Hid (∀ W, S W → Cur w.heap.size W p) := hid (fun W h => by rw [hSd] at h; exact h.1)
  have SB : Hid (∀ W, S W → Below w.heap.size w W) := hid (fun W h => by rw [hSd] at h; exact h.2.1)
  have SO : Hid (∀ W, S W → OwnR wz 38 W (.slice (some ⟨gr, 0, none⟩) ns.length cr) ns) := hid (fun W h => by rw [hSd] at h; exact h.2.2.2)
  have SU : Hid (∀ W W', S W → Below W.heap.size W W' → S W') := hid (fun W W' h hb => by rw [hSd] at h ⊢; exact ⟨h.1.below hb, then_ h.2.1 hb h.2.1.size, h.2.2.1.below hb h.2.2.1.lt, h.2.2.2.below hb⟩)
  have SP : Hid (∀ W W', S W → Cur w.heap.size W' p → W.grownBy W' (some p) → S W') := hid (fun W W' h hc hg => by
    rw [hSd] at h ⊢
    have := G6.out; have := WZ.out
    exact ⟨hc, h.2.1.grown hg h.2.1.size (fun g hg => by cases hg; omega), h.2.2.1.grow hg (fun e => by have := Option.some.inj e; omega), h.2.2.2.past hg (by omega)⟩)
  have ST : Hid (∀ W r x y, S W → w.heap.size ≤ r → r < w.heap.size + 2 → S ((W.setCell ⟨r, 0, none⟩ x).setCell ⟨r, 1, none⟩ y)) := hid (fun W r x y h h1 h2 => by
    rw [hSd] at h ⊢
    have := G6.out; have := WZ.out
    have hcur : Cur w.heap.size ((W.setCell ⟨r, 0, none⟩ x).setCell ⟨r, 1, none⟩ y) p := (h.1.over (cur_set W r 0 x) h1 (by omega)).over (cur_set _ r 1 y) h1 (by omega)
    exact ⟨hcur, (h.2.1.setCell (p := ⟨r, 0, none⟩) h1 _).setCell (p := ⟨r, 1, none⟩) h1 _, h.2.2.1.pastTwo (by omega) x y, (h.2.2.2.set_low (by omega) 0 x).set_low (by omega) 1 y⟩)
  have CELLS : Hid (∀ W, S W → W.cell? ⟨g6, 0, none⟩ = some (.int .i64 ax) ∧ W.cell? ⟨g6, 1, none⟩ = some (.int .i64 ay)) := hid (fun W h => by
    rw [hSd] at h
    have h6 := h.2.2.1
    exact ⟨by rw [h6.cell]; rfl, by rw [h6.cell]; rfl⟩)
  have bd5 : Below w5.heap.size w5 w5.drew := (Below.refl _ _).drew
  have hSD := SU.out _ _ hS bd5
  replace R3 := hid (R3.out.below bd5 R3.out.lt)
  replace R4 := hid (R4.out.below bd5 R4.out.lt)
  clear hSd hS K2 B2 X6 O2 bd5
  go_wp2_with fail
  refine wm_start (S := S) (by kernel_rfl) hSD ?_
  refine wm_take (i := 0) (v := ?_) rfl (by kernel_rfl) (by kernel_rfl) (by kernel_rfl) (fun _ _ _ h => h) (by kernel_rfl) ?_ ?_
  rotate_left
  (focus (intro w hSw; obtain ⟨z0, z1⟩ := CELLS.out _ hSw; go_simp; try with_reducible rfl))
  simp only [Act.put, List.setIfInBounds_toArray, List.set_cons_zero, List.set_cons_succ, List.getElem_toArray, List.getElem_cons_succ, List.getElem_cons_zero, Nat.reduceAdd]
  refine wm_take (i := 1) (v := ?_) rfl (by kernel_rfl) (by kernel_rfl) (by kernel_rfl) (fun _ _ _ h => h) (by kernel_rfl) ?_ ?_
  rotate_left
  (focus (intro w hSw; obtain ⟨z0, z1⟩ := CELLS.out _ hSw; go_simp; try with_reducible rfl))
  simp only [Act.put, List.setIfInBounds_toArray, List.set_cons_zero, List.set_cons_succ, List.getElem_toArray, List.getElem_cons_succ, List.getElem_cons_zero, Nat.reduceAdd]
  refine wm_take (i := 2) (v := ?_) rfl (by kernel_rfl) (by kernel_rfl) (by kernel_rfl) (fun _ _ _ h => h) (by kernel_rfl) ?_ ?_
  rotate_left
  (focus (intro w hSw; obtain ⟨z0, z1⟩ := CELLS.out _ hSw; go_simp; try with_reducible rfl))
  simp only [Act.put, List.setIfInBounds_toArray, List.set_cons_zero, List.set_cons_succ, List.getElem_toArray, List.getElem_cons_succ, List.getElem_cons_zero, Nat.reduceAdd]
  refine wm_take (i := 3) (v := ?_) rfl (by kernel_rfl) (by kernel_rfl) (by kernel_rfl) (fun _ _ _ h => h) (by kernel_rfl) ?_ ?_
  rotate_left
  (focus (intro w hSw; obtain ⟨z0, z1⟩ := CELLS.out _ hSw; go_simp; try with_reducible rfl))
  simp only [Act.put, List.setIfInBounds_toArray, List.set_cons_zero, List.set_cons_succ, List.getElem_toArray, List.getElem_cons_succ, List.getElem_cons_zero, Nat.reduceAdd]
  refine wm_take (i := 4) (v := ?_) rfl (by kernel_rfl) (by kernel_rfl) (by kernel_rfl) (fun _ _ _ h => h) (by kernel_rfl) ?_ ?_
  rotate_left
  (focus (intro w hSw; obtain ⟨z0, z1⟩ := CELLS.out _ hSw; go_simp; try with_reducible rfl))
  simp only [Act.put, List.setIfInBounds_toArray, List.set_cons_zero, List.set_cons_succ, List.getElem_toArray, List.getElem_cons_succ, List.getElem_cons_zero, Nat.reduceAdd]
  refine wm_each (l := [5]) (by kernel_rfl) (by simp) ?_
  intro v1 hv1 hS1
  replace R3 := hid (R3.out.below hv1 R3.out.lt)
  replace R4 := hid (R4.out.below hv1 R4.out.lt)
  refine Each.cons rfl (fun K hK => ?_) Each.nil
  go_simp
  refine (drawLead_any w.heap.size p (ns.length : Int) _ (SC.out _ hS1) (SB.out _ hS1).size (by omega) (by omega)).mono ?_
  rintro e w6 ⟨bx, by_, rfl, hd⟩
  have hS6 := SP.out _ _ hS1 hd.cur hd.grow
  replace R3 := hid (R3.out.grow hd.grow (fun e => by have := Option.some.inj e; have := G6.out; omega))
  replace R4 := hid (R4.out.grow hd.grow (fun e => by have := Option.some.inj e; have := G6.out; omega))
  clear hd
  (try dsimp only)
  refine hK.out _ _ ⟨hS6, ?_⟩
  clear hK K
  (try simp only [Act.put, List.setIfInBounds_toArray, List.set_cons_zero, List.set_cons_succ, List.getElem_toArray, List.getElem_cons_succ, List.getElem_cons_zero, Nat.reduceAdd])
  refine wm_take (i := 6) (v := ?_) rfl (by kernel_rfl) (by kernel_rfl) (by kernel_rfl) (fun _ _ _ h => h) (by kernel_rfl) ?_ ?_
  rotate_left
  (focus (intro w hSw; obtain ⟨z0, z1⟩ := CELLS.out _ hSw; go_simp; try with_reducible rfl))
  simp only [Act.put, List.setIfInBounds_toArray, List.set_cons_zero, List.set_cons_succ, List.getElem_toArray, List.getElem_cons_succ, List.getElem_cons_zero, Nat.reduceAdd]
  refine wm_each (l := [7]) (by kernel_rfl) (by simp) ?_
  intro v7 hv7 hS7
  replace R3 := hid (R3.out.below hv7 R3.out.lt)
  replace R4 := hid (R4.out.below hv7 R4.out.lt)
  have e0 : v7.cell? ⟨w.heap.size, 0, none⟩ = some (.int .i64 0) := by rw [R3.out.cell]; rfl
  have e1 : v7.cell? ⟨w.heap.size, 1, none⟩ = some (.int .i64 0) := by rw [R3.out.cell]; rfl
  have f0 : v7.frozen? ⟨w.heap.size, 0, none⟩ = false := R3.out.frozen 0
  have f1 : v7.frozen? ⟨w.heap.size, 1, none⟩ = false := R3.out.frozen 1
  refine Each.cons rfl (fun K hK => ?_) Each.nil
  go_simp
  have hSn := ST.out v7 w.heap.size (.int .i64 ax) (.int .i64 ay) hS7 (by omega) (by omega)
  replace R3 := hid (R3.out.putTwo (.int .i64 ax) (.int .i64 ay))
  replace R4 := hid (R4.out.pastTwo (h := w.heap.size) (by omega) (.int .i64 ax) (.int .i64 ay))
  clear e0 e1 f0 f1
  (try dsimp only)
  refine hK.out _ _ ⟨hSn, ?_⟩
  clear hK K
  (try simp only [Act.put, List.setIfInBounds_toArray, List.set_cons_zero, List.set_cons_succ, List.getElem_toArray, List.getElem_cons_succ, List.getElem_cons_zero, Nat.reduceAdd])
  generalize (World.setCell _ _ _).setCell _ _ = u7 at hSn R3 R4 ⊢
  refine wm_each (l := [8]) (by kernel_rfl) (by simp) ?_
  intro v8 hv8 hS8
  replace R3 := hid (R3.out.below hv8 R3.out.lt)
  replace R4 := hid (R4.out.below hv8 R4.out.lt)
  have e0 : v8.cell? ⟨(w.heap.size + 1), 0, none⟩ = some (.int .i64 0) := by rw [R4.out.cell]; rfl
  have e1 : v8.cell? ⟨(w.heap.size + 1), 1, none⟩ = some (.int .i64 0) := by rw [R4.out.cell]; rfl
  have f0 : v8.frozen? ⟨(w.heap.size + 1), 0, none⟩ = false := R4.out.frozen 0
  have f1 : v8.frozen? ⟨(w.heap.size + 1), 1, none⟩ = false := R4.out.frozen 1
  refine Each.cons rfl (fun K hK => ?_) Each.nil
  go_simp
  have hSn := ST.out v8 (w.heap.size + 1) (.int .i64 bx) (.int .i64 by_) hS8 (by omega) (by omega)
  replace R3 := hid (R3.out.pastTwo (h := (w.heap.size + 1)) (by omega) (.int .i64 bx) (.int .i64 by_))
  replace R4 := hid (R4.out.putTwo (.int .i64 bx) (.int .i64 by_))
  clear e0 e1 f0 f1
  (try dsimp only)
  refine hK.out _ _ ⟨hSn, ?_⟩
  clear hK K
  (try simp only [Act.put, List.setIfInBounds_toArray, List.set_cons_zero, List.set_cons_succ, List.getElem_toArray, List.getElem_cons_succ, List.getElem_cons_zero, Nat.reduceAdd])
  generalize (World.setCell _ _ _).setCell _ _ = u8 at hSn R3 R4 ⊢
  refine wm_done (by kernel_rfl) ?_
  intro w9 hv9 hS9
  replace R3 := hid (R3.out.below hv9 R3.out.lt)
  replace R4 := hid (R4.out.below hv9 R4.out.lt)
  have t0 : w9.cell? ⟨w.heap.size, 0, none⟩ = some (.int .i64 ax) := by rw [R3.out.cell]; rfl
  have t1 : w9.cell? ⟨w.heap.size, 1, none⟩ = some (.int .i64 ay) := by rw [R3.out.cell]; rfl
  have t2 : w9.cell? ⟨w.heap.size + 1, 0, none⟩ = some (.int .i64 bx) := by rw [R4.out.cell]; rfl
  have t3 : w9.cell? ⟨w.heap.size + 1, 1, none⟩ = some (.int .i64 by_) := by rw [R4.out.cell]; rfl
  have BF := hid (SB.out _ hS9)
  have OF := hid (OwnR.less (SO.out _ hS9) (show w.heap.size ≤ wz by have := WZ.out; omega))
  go_wp2
  exact bodyPost_ret (v := .tuple #[.slice (some ⟨gr, 0, none⟩) ns.length cr, .agg #[.int .i64 ax, .int .i64 ay], .agg #[.int .i64 bx, .int .i64 by_]]) (by simp [results, Try.results6, go_sem, t0, t1, t2, t3]) rfl ⟨_, _, _, _, _, _, rfl, OF.out, BF.out⟩
end Go.Proofs.Ytbijbohkpjnjnaa.Bd

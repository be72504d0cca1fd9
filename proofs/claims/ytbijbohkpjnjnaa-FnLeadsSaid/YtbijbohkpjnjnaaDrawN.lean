/- The shapes of windows that the laws draw, and the nodes that they draw. No condition but that there is a cursor. -/
import Derived.Test.YtbijbohkpjnjnaaCurN
import Derived.Test.YtbijbohkpjnjnaaWinP
import Derived.Test.YtbijbohkpjnjnaaCopyP
import Derived.Test.YtbijbohkpjnjnaaSample
namespace Go.Proofs.Ytbijbohkpjnjnaa
open Go.ChangeShapes Go.WideShapes Go.ChangeAt Go.RowKit
set_option maxHeartbeats 4000000
set_option maxRecDepth 100000
set_option linter.unusedSimpArgs false
set_option linter.unusedVariables false
def DrawNode (p : Nat) (w : World) (e : Ending) (w' : World) : Prop := ∃ x y : Int, 0 ≤ x ∧ x ≤ 12 ∧ 0 ≤ y ∧ y ≤ 12 ∧ e = .returned (.agg #[.int .i64 x, .int .i64 y]) ∧ Cur w' p ∧ w.grownBy w' (some p)
theorem drawNode_any (p : Nat) (w : World) (H : Cur w p) : Calls Try.prog 25 #[.pointer (some ⟨p, 0, none⟩)] w (DrawNode p w) := by
  have plt := H.lt
  have K0 := hid (H.alloc (.cells #[.int .i64 0, .int .i64 0] 38))
  have R0 := hid (Blk.new w 38 #[.int .i64 0, .int .i64 0])
  have G0 := hid (World.grownBy_alloc w (.cells #[.int .i64 0, .int .i64 0] 38) (some p))
  clear H
  go_enter Try.func25, Try.ntmps25
  go_wp2_with fail
  refine (curBelow_any p 13 _ K0.out (by omega) (by omega)).mono ?_
  rintro e w1 ⟨x, x0, x1, rfl, hk, hg⟩
  have K1 := hid hk
  have R1 := hid (R0.out.grow hg (fun e => by have := Option.some.inj e; omega))
  have G1 := hid (G0.out.trans hg)
  clear hk hg K0 R0 G0
  go_wp2_with fail
  refine (curBelow_any p 13 _ K1.out (by omega) (by omega)).mono ?_
  rintro e w2 ⟨y, y0, y1, rfl, hk, hg⟩
  have K2 := hid hk
  have R2 := hid (R1.out.grow hg (fun e => by have := Option.some.inj e; omega))
  have G2 := hid (G1.out.trans hg)
  clear hk hg K1 R1 G1
  have r0 : w2.cell? ⟨w.heap.size, 0, none⟩ = some (.int .i64 0) := by rw [R2.out.cell]; rfl
  have r1 : w2.cell? ⟨w.heap.size, 1, none⟩ = some (.int .i64 0) := by rw [R2.out.cell]; rfl
  have f0 : w2.frozen? ⟨w.heap.size, 0, none⟩ = false := R2.out.frozen 0
  have f1 : w2.frozen? ⟨w.heap.size, 1, none⟩ = false := R2.out.frozen 1
  have R3 := (R2.out.set_ 0 (.int .i64 x)).set_ 1 (.int .i64 y)
  have t0 : ((w2.setCell ⟨w.heap.size, 0, none⟩ (.int .i64 x)).setCell ⟨w.heap.size, 1, none⟩ (.int .i64 y)).cell? ⟨w.heap.size, 0, none⟩ = some (.int .i64 x) := by rw [R3.cell]; rfl
  have t1 : ((w2.setCell ⟨w.heap.size, 0, none⟩ (.int .i64 x)).setCell ⟨w.heap.size, 1, none⟩ (.int .i64 y)).cell? ⟨w.heap.size, 1, none⟩ = some (.int .i64 y) := by rw [R3.cell]; rfl
  have hb : Below w.heap.size w2 ((w2.setCell ⟨w.heap.size, 0, none⟩ (.int .i64 x)).setCell ⟨w.heap.size, 1, none⟩ (.int .i64 y)) := ((Below.refl _ _).setCell (p := ⟨w.heap.size, 0, none⟩) (Nat.le_refl _) _).setCell (p := ⟨w.heap.size, 1, none⟩) (Nat.le_refl _) _
  have hc : ∀ o (v : Value) (W : World), Cur W p → Cur (W.setCell ⟨w.heap.size, o, none⟩ v) p := fun o v W hk => hk.keep (some w.heap.size) (fun g e => by have := Option.some.inj e; omega) (cur_set W w.heap.size o v)
  have K3 := hid (hc 1 (.int .i64 y) _ (hc 0 (.int .i64 x) _ K2.out))
  have G3 : w.grownBy ((w2.setCell ⟨w.heap.size, 0, none⟩ (.int .i64 x)).setCell ⟨w.heap.size, 1, none⟩ (.int .i64 y)) (some p) := ⟨hb.os.trans G2.out.os, hb.tape.trans G2.out.tape, hb.output.trans G2.out.output, Nat.le_trans G2.out.size hb.size, fun k hk hne => (hb.block k hk).trans (G2.out.block k hk hne)⟩
  have G4 := hid G3
  clear R3 hb G3
  go_wp2
  exact bodyPost_ret (v := .agg #[.int .i64 x, .int .i64 y]) (by simp [results, Try.results25, go_sem, t0, t1]) rfl ⟨x, y, x0, by omega, y0, by omega, rfl, K3.out, G4.out⟩
def shN1 : List (Int × Int) := [(0, 0), (12, 0), (4, 12), (4, 3), (7, 3), (5, 6)]
def shL1 : List (Int × Int) := [(0, 1), (1, 2), (0, 2), (3, 4), (4, 5), (3, 5), (0, 3)]
def shN2 : List (Int × Int) := [(0, 0), (4, 0), (8, 0), (12, 0), (0, 5), (4, 5), (8, 5), (12, 5), (0, 9), (4, 9), (8, 9), (12, 9)]
def shL2 : List (Int × Int) := [(0, 1), (1, 2), (2, 3), (4, 5), (5, 6), (6, 7), (8, 9), (9, 10), (10, 11), (0, 4), (1, 5), (2, 6), (3, 7), (4, 8), (5, 9), (6, 10), (7, 11)]
def shN3 : List (Int × Int) := [(6, 6), (6, 0), (12, 4), (10, 11), (2, 11), (0, 4)]
def shL3 : List (Int × Int) := [(0, 1), (0, 2), (0, 3), (0, 4), (0, 5), (1, 2), (2, 3), (3, 4), (4, 5), (1, 5)]
def shN4 : List (Int × Int) := [(0, 0), (3, 0), (3, 3), (0, 3), (6, 1), (9, 1), (9, 5), (6, 5)]
def shL4 : List (Int × Int) := [(0, 1), (1, 2), (2, 3), (0, 3), (4, 5), (5, 6), (6, 7), (4, 7)]
def shN (k : Nat) : List (Int × Int) := if k = 0 then smpN else if k = 1 then shN1 else if k = 2 then shN2 else if k = 3 then shN3 else shN4
def shL (k : Nat) : List (Int × Int) := if k = 0 then smpL else if k = 1 then shL1 else if k = 2 then shL2 else if k = 3 then shL3 else shL4
theorem sh_ok (k : Nat) : winOkB (shN k) (shL k) = true := by
  unfold shN shL
  split
  · kernel_rfl
  · split
    · kernel_rfl
    · split
      · kernel_rfl
      · split
        · kernel_rfl
        · kernel_rfl
theorem shape1_any (w : World) : Calls Try.prog 19 #[.int .i64 1] w (NewWin shN1 shL1 w) := by
  go_enter Try.func19, Try.ntmps19
  go_wp2
  refine bodyPost_ret (results_cell_row rfl _ _ w.heap.size _ _ _ _ rfl (alloc3 _ _ _ _).1 Try.underlying27 rfl (by kernel_rfl)) rfl ?_
  exact ⟨_, _, rfl, ⟨_, rfl, by omega, by decide, (alloc3 _ _ _ _).2.1⟩, ⟨_, rfl, by omega, by decide, (alloc3 _ _ _ _).2.2.1⟩, (alloc3 _ _ _ _).2.2.2⟩
theorem shape2_any (w : World) : Calls Try.prog 19 #[.int .i64 2] w (NewWin shN2 shL2 w) := by
  go_enter Try.func19, Try.ntmps19
  go_wp2
  refine bodyPost_ret (results_cell_row rfl _ _ w.heap.size _ _ _ _ rfl (alloc3 _ _ _ _).1 Try.underlying27 rfl (by kernel_rfl)) rfl ?_
  exact ⟨_, _, rfl, ⟨_, rfl, by omega, by decide, (alloc3 _ _ _ _).2.1⟩, ⟨_, rfl, by omega, by decide, (alloc3 _ _ _ _).2.2.1⟩, (alloc3 _ _ _ _).2.2.2⟩
theorem shape3_any (w : World) : Calls Try.prog 19 #[.int .i64 3] w (NewWin shN3 shL3 w) := by
  go_enter Try.func19, Try.ntmps19
  go_wp2
  refine bodyPost_ret (results_cell_row rfl _ _ w.heap.size _ _ _ _ rfl (alloc3 _ _ _ _).1 Try.underlying27 rfl (by kernel_rfl)) rfl ?_
  exact ⟨_, _, rfl, ⟨_, rfl, by omega, by decide, (alloc3 _ _ _ _).2.1⟩, ⟨_, rfl, by omega, by decide, (alloc3 _ _ _ _).2.2.1⟩, (alloc3 _ _ _ _).2.2.2⟩
theorem shape4_any (w : World) : Calls Try.prog 19 #[.int .i64 4] w (NewWin shN4 shL4 w) := by
  go_enter Try.func19, Try.ntmps19
  go_wp2
  refine bodyPost_ret (results_cell_row rfl _ _ w.heap.size _ _ _ _ rfl (alloc3 _ _ _ _).1 Try.underlying27 rfl (by kernel_rfl)) rfl ?_
  exact ⟨_, _, rfl, ⟨_, rfl, by omega, by decide, (alloc3 _ _ _ _).2.1⟩, ⟨_, rfl, by omega, by decide, (alloc3 _ _ _ _).2.2.1⟩, (alloc3 _ _ _ _).2.2.2⟩
theorem shape0_any (w : World) : Calls Try.prog 19 #[.int .i64 0] w (NewWin smpN smpL w) := by
  have R0 := hid (Blk.new w 27 #[.slice none 0 0, .slice none 0 0])
  have B0 := hid ((Below.refl w.heap.size w).alloc (Nat.le_refl _) (.cells #[.slice none 0 0, .slice none 0 0] 27))
  go_enter Try.func19, Try.ntmps19
  go_wp2_with fail
  refine (sSmp_any _).mono ?_
  rintro e w1 ⟨p1, p2, rfl, ho1, ho2, hb⟩
  obtain ⟨g1, rfl, q1, q2, q3⟩ := ho1
  obtain ⟨g2, rfl, s1, s2, s3⟩ := ho2
  have R1 := hid (R0.out.below hb R0.out.lt)
  have B1 := hid (then_ B0.out hb B0.out.size)
  simp only [World.alloc, Array.size_push] at q1 s1
  have r0 : w1.cell? ⟨w.heap.size, 0, none⟩ = some (.slice none 0 0) := by rw [R1.out.cell]; rfl
  have r1 : w1.cell? ⟨w.heap.size, 1, none⟩ = some (.slice none 0 0) := by rw [R1.out.cell]; rfl
  have f0 : w1.frozen? ⟨w.heap.size, 0, none⟩ = false := R1.out.frozen 0
  have f1 : w1.frozen? ⟨w.heap.size, 1, none⟩ = false := R1.out.frozen 1
  have R3 := (R1.out.set_ 0 (.slice (some ⟨g1, 0, none⟩) smpN.length smpN.length)).set_ 1 (.slice (some ⟨g2, 0, none⟩) smpL.length smpL.length)
  have t0 : ((w1.setCell ⟨w.heap.size, 0, none⟩ (.slice (some ⟨g1, 0, none⟩) smpN.length smpN.length)).setCell ⟨w.heap.size, 1, none⟩ (.slice (some ⟨g2, 0, none⟩) smpL.length smpL.length)).cell? ⟨w.heap.size, 0, none⟩ = some (.slice (some ⟨g1, 0, none⟩) smpN.length smpN.length) := by rw [R3.cell]; rfl
  have t1 : ((w1.setCell ⟨w.heap.size, 0, none⟩ (.slice (some ⟨g1, 0, none⟩) smpN.length smpN.length)).setCell ⟨w.heap.size, 1, none⟩ (.slice (some ⟨g2, 0, none⟩) smpL.length smpL.length)).cell? ⟨w.heap.size, 1, none⟩ = some (.slice (some ⟨g2, 0, none⟩) smpL.length smpL.length) := by rw [R3.cell]; rfl
  have O1 := hid ((q3.far (p := ⟨w.heap.size, 0, none⟩) (by show g1 ≠ w.heap.size; omega) (.slice (some ⟨g1, 0, none⟩) smpN.length smpN.length)).far (p := ⟨w.heap.size, 1, none⟩) (by show g1 ≠ w.heap.size; omega) (.slice (some ⟨g2, 0, none⟩) smpL.length smpL.length))
  have O2 := hid ((s3.far (p := ⟨w.heap.size, 0, none⟩) (by show g2 ≠ w.heap.size; omega) (.slice (some ⟨g1, 0, none⟩) smpN.length smpN.length)).far (p := ⟨w.heap.size, 1, none⟩) (by show g2 ≠ w.heap.size; omega) (.slice (some ⟨g2, 0, none⟩) smpL.length smpL.length))
  have B3 := hid ((B1.out.setCell (p := ⟨w.heap.size, 0, none⟩) (Nat.le_refl _) (.slice (some ⟨g1, 0, none⟩) smpN.length smpN.length)).setCell (p := ⟨w.heap.size, 1, none⟩) (Nat.le_refl _) (.slice (some ⟨g2, 0, none⟩) smpL.length smpL.length))
  clear hb q3 s3 R3
  go_wp2
  exact bodyPost_ret (v := .agg #[.slice (some ⟨g1, 0, none⟩) smpN.length smpN.length, .slice (some ⟨g2, 0, none⟩) smpL.length smpL.length]) (by simp [results, Try.results19, go_sem, t0, t1]) rfl ⟨_, _, rfl, ⟨g1, rfl, by omega, q2, O1.out⟩, ⟨g2, rfl, by omega, s2, O2.out⟩, B3.out⟩
theorem shape_any (k : Nat) (w : World) (hk : k ≤ 4) : Calls Try.prog 19 #[.int .i64 (k : Int)] w (NewWin (shN k) (shL k) w) := by
  have h : k = 0 ∨ k = 1 ∨ k = 2 ∨ k = 3 ∨ k = 4 := by omega
  rcases h with rfl | rfl | rfl | rfl | rfl
  · exact shape0_any w
  · exact shape1_any w
  · exact shape2_any w
  · exact shape3_any w
  · exact shape4_any w
end Go.Proofs.Ytbijbohkpjnjnaa

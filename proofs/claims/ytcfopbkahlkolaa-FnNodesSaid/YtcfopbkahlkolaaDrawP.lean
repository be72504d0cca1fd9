/- The nodes that the laws draw. No condition but the sizes that are named. -/
import Derived.Test.YtcfopbkahlkolaaCurB
import Derived.Test.YtcfopbkahlkolaaHeldM
namespace Go.Proofs.Ytcfopbkahlkolaa
open Go.ChangeShapes Go.WideShapes Go.ChangeAt Go.RowKit
set_option maxHeartbeats 4000000
set_option maxRecDepth 100000
set_option linter.unusedSimpArgs false
set_option linter.unusedVariables false
/-- a node box is written -/
theorem Blk.put2 {w : World} {g : Nat} {T : TypeId} {u v : Value} (h : Blk w g T #[u, v]) (x y : Value) : Blk ((w.setCell ⟨g, 0, none⟩ x).setCell ⟨g, 1, none⟩ y) g T #[x, y] := (h.set_ 0 x).set_ 1 y
theorem Blk.past2 {w : World} {g h : Nat} {T : TypeId} {cs : Array Value} (k : Blk w g T cs) (hne : g ≠ h) (x y : Value) : Blk ((w.setCell ⟨h, 0, none⟩ x).setCell ⟨h, 1, none⟩ y) g T cs := by
  have a : Blk (w.setCell ⟨h, 0, none⟩ x) g T cs := (Below.heap_setCell w ⟨h, 0, none⟩ x g hne).trans k
  exact (Below.heap_setCell _ ⟨h, 1, none⟩ y g hne).trans a
def DrawThree (w : World) (e : Ending) (w' : World) : Prop := ∃ ax ay bx by' cx cy : Int, (0 ≤ ax ∧ ax ≤ 12 ∧ 0 ≤ ay ∧ ay ≤ 12) ∧ (0 ≤ bx ∧ bx ≤ 12 ∧ 0 ≤ by' ∧ by' ≤ 12) ∧ (0 ≤ cx ∧ cx ≤ 12 ∧ 0 ≤ cy ∧ cy ≤ 12) ∧
  e = .returned (.tuple #[.agg #[.int .i64 ax, .int .i64 ay], .agg #[.int .i64 bx, .int .i64 by'], .agg #[.int .i64 cx, .int .i64 cy]]) ∧ Below w.heap.size w w'
end Go.Proofs.Ytcfopbkahlkolaa
namespace Go.Proofs.Ytcfopbkahlkolaa.Bd
open Go.ChangeShapes Go.WideShapes Go.ChangeAt Go.RowKit
set_option maxHeartbeats 4000000
set_option maxRecDepth 100000
set_option linter.unusedSimpArgs false
set_option linter.unusedVariables false
theorem drawNodes_any (A : Option Addr) (n c : Nat) (w : World) (hb : LoBytes w A n) (hn : n ≤ 1048576) : Calls Try.prog 38 #[.slice A n c] w (DrawThree w) := by
  obtain ⟨W0, hW0⟩ : ∃ W : World, W = ((w.alloc (.cells #[.int .i64 0, .int .i64 0] 26)).alloc (.cells #[.int .i64 0, .int .i64 0] 26)).alloc (.cells #[.int .i64 0, .int .i64 0] 26) := ⟨_, rfl⟩
  have s0 : Below w.heap.size w W0 := by rw [hW0]; exact (((Below.refl _ _).alloc (Nat.le_refl _) _).alloc (by simp) _).alloc (by simp; omega) _
  have z0 : W0.heap.size = w.heap.size + 3 := by rw [hW0]; simp
  have R2 : Hid (Blk W0 w.heap.size 26 #[.int .i64 0, .int .i64 0]) := hid (by
    rw [hW0]; exact ((Blk.new w 26 _).below ((Below.refl _ _).alloc (Nat.le_refl _) _) (by simp)).below ((Below.refl _ _).alloc (Nat.le_refl _) _) (by simp; omega))
  have R3 : Hid (Blk W0 (w.heap.size + 1) 26 #[.int .i64 0, .int .i64 0]) := hid (by
    have h := Blk.new (w.alloc (.cells #[.int .i64 0, .int .i64 0] 26)) 26 #[.int .i64 0, .int .i64 0]
    rw [show (w.alloc (.cells #[.int .i64 0, .int .i64 0] 26)).heap.size = w.heap.size + 1 by simp] at h
    rw [hW0]; exact h.below ((Below.refl _ _).alloc (Nat.le_refl _) _) (by simp))
  have R4 : Hid (Blk W0 (w.heap.size + 1 + 1) 26 #[.int .i64 0, .int .i64 0]) := hid (by
    have h := Blk.new ((w.alloc (.cells #[.int .i64 0, .int .i64 0] 26)).alloc (.cells #[.int .i64 0, .int .i64 0] 26)) 26 #[.int .i64 0, .int .i64 0]
    rw [show ((w.alloc (.cells #[.int .i64 0, .int .i64 0] 26)).alloc (.cells #[.int .i64 0, .int .i64 0] 26)).heap.size = w.heap.size + 1 + 1 by simp] at h
    rw [hW0]; exact h)
  have LW : Hid (Low w.heap.size A n) := hid (fun k hk => by obtain ⟨b, off, x, e1, e2, _⟩ := hb k hk; exact ⟨b, off, e1, e2⟩)
  have LB := hid (hb.below s0)
  have B0 := hid s0
  clear hb s0
  go_enter Try.func38, Try.ntmps38
  go_wp2_with fail
  rw [← hW0]
  clear hW0
  refine (curNew_any (B := w.heap.size) A n c _ LB.out LW.out hn).mono ?_
  rintro e w1 ⟨p, rfl, hp, hc, hb⟩
  have K1 := hid hc
  have B1 := hid (then_ B0.out hb B0.out.size)
  replace R2 := hid (R2.out.below hb R2.out.lt)
  replace R3 := hid (R3.out.below hb R3.out.lt)
  replace R4 := hid (R4.out.below hb R4.out.lt)
  clear hc hb LB LW B0
  go_wp2_with fail
  refine (drawNode_any p _ K1.out).mono ?_
  rintro e w2 ⟨ax, ay, a0, a1, a2, a3, rfl, hk, hg⟩
  have AA := hid (show 0 ≤ ax ∧ ax ≤ 12 ∧ 0 ≤ ay ∧ ay ≤ 12 from ⟨a0, a1, a2, a3⟩)
  have b6 : Below w2.heap.size w2 (w2.alloc (.cells #[.int .i64 ax, .int .i64 ay] 26)) := (Below.refl _ _).alloc (Nat.le_refl _) _
  have s12 := hg.size
  have B2 := hid (then_ (B1.out.grown hg B1.out.size (fun g hg => by cases hg; omega)) b6 (Nat.le_trans B1.out.size hg.size))
  replace R2 := hid ((R2.out.grow hg (fun e => by have := Option.some.inj e; omega)).below b6 (by have := R2.out.lt; omega))
  replace R3 := hid ((R3.out.grow hg (fun e => by have := Option.some.inj e; omega)).below b6 (by have := R3.out.lt; omega))
  replace R4 := hid ((R4.out.grow hg (fun e => by have := Option.some.inj e; omega)).below b6 (by have := R4.out.lt; omega))
  have K2 := hid (hk.below b6)
  have X6 := hid (Blk.new w2 26 #[.int .i64 ax, .int .i64 ay])
  have g6p := hk.lt
  have s1 := B1.out.size
  clear hk hg b6 a0 a1 a2 a3 K1 B1
  go_wp2_with fail
  generalize hg6 : w2.heap.size = g6 at X6 g6p s12 ⊢
  have G6 := hid (show p < g6 ∧ w.heap.size + 3 ≤ g6 ∧ w.heap.size + 3 ≤ p by omega)
  clear hg6
  generalize w2.alloc _ = w3 at R2 R3 R4 K2 X6 B2 ⊢
  clear g6p s12 s1 z0 hp
  refine (drawNode_any p _ K2.out).mono ?_
  rintro e w4 ⟨bx, by', a0, a1, a2, a3, rfl, hk, hg⟩
  have BB := hid (show 0 ≤ bx ∧ bx ≤ 12 ∧ 0 ≤ by' ∧ by' ≤ 12 from ⟨a0, a1, a2, a3⟩)
  have b7 : Below w4.heap.size w4 (w4.alloc (.cells #[.int .i64 bx, .int .i64 by'] 26)) := (Below.refl _ _).alloc (Nat.le_refl _) _
  have B3 := hid (then_ (B2.out.grown hg B2.out.size (fun g hg => by cases hg; have := G6.out; omega)) b7 (Nat.le_trans B2.out.size hg.size))
  replace R2 := hid ((R2.out.grow hg (fun e => by have := Option.some.inj e; have := G6.out; omega)).below b7 (by have := R2.out.lt; have := hg.size; omega))
  replace R3 := hid ((R3.out.grow hg (fun e => by have := Option.some.inj e; have := G6.out; omega)).below b7 (by have := R3.out.lt; have := hg.size; omega))
  replace R4 := hid ((R4.out.grow hg (fun e => by have := Option.some.inj e; have := G6.out; omega)).below b7 (by have := R4.out.lt; have := hg.size; omega))
  have l6 := X6.out.lt
  have s34 := hg.size
  replace X6 := hid ((X6.out.grow hg (fun e => by have := Option.some.inj e; have := G6.out; omega)).below b7 (by omega))
  have K3 := hid (hk.below b7)
  have X7 := hid (Blk.new w4 26 #[.int .i64 bx, .int .i64 by'])
  clear hk hg b7 a0 a1 a2 a3 K2 B2
  go_wp2_with fail
  generalize hg7 : w4.heap.size = g7 at X7 s34 ⊢
  have G7 := hid (show g6 < g7 by omega)
  clear hg7 l6 s34
  generalize w4.alloc _ = w5 at R2 R3 R4 K3 X6 X7 B3 ⊢
  obtain ⟨S, hSd⟩ : ∃ S : World → Prop, S = fun W => Cur w.heap.size W p ∧ Below w.heap.size w W ∧ Blk W g6 26 #[.int .i64 ax, .int .i64 ay] ∧ Blk W g7 26 #[.int .i64 bx, .int .i64 by'] := ⟨_, rfl⟩
  have hS : S w5 := by rw [hSd]; exact ⟨K3.out, B3.out, X6.out, X7.out⟩
  have SC : Hid (∀ W, S W → Cur w.heap.size W p) := hid (fun W h => by rw [hSd] at h; exact h.1)
  have SB : Hid (∀ W, S W → Below w.heap.size w W) := hid (fun W h => by rw [hSd] at h; exact h.2.1)
  have SU : Hid (∀ W W', S W → Below W.heap.size W W' → S W') := hid (fun W W' h hb => by rw [hSd] at h ⊢; exact ⟨h.1.below hb, then_ h.2.1 hb h.2.1.size, h.2.2.1.below hb h.2.2.1.lt, h.2.2.2.below hb h.2.2.2.lt⟩)
  have SP : Hid (∀ W W', S W → Cur w.heap.size W' p → W.grownBy W' (some p) → S W') := hid (fun W W' h hc hg => by
    rw [hSd] at h ⊢
    have := G6.out; have := G7.out
    exact ⟨hc, h.2.1.grown hg h.2.1.size (fun g hg => by cases hg; omega), h.2.2.1.grow hg (fun e => by have := Option.some.inj e; omega), h.2.2.2.grow hg (fun e => by have := Option.some.inj e; omega)⟩)
  have ST : Hid (∀ W r x y, S W → w.heap.size ≤ r → r < w.heap.size + 3 → S ((W.setCell ⟨r, 0, none⟩ x).setCell ⟨r, 1, none⟩ y)) := hid (fun W r x y h h1 h2 => by
    rw [hSd] at h ⊢
    have := G6.out; have := G7.out
    have hcur : Cur w.heap.size ((W.setCell ⟨r, 0, none⟩ x).setCell ⟨r, 1, none⟩ y) p := (h.1.over (cur_set W r 0 x) h1 (by omega)).over (cur_set _ r 1 y) h1 (by omega)
    exact ⟨hcur, (h.2.1.setCell (p := ⟨r, 0, none⟩) h1 _).setCell (p := ⟨r, 1, none⟩) h1 _, h.2.2.1.past2 (by omega) x y, h.2.2.2.past2 (by omega) x y⟩)
  have CELLS : Hid (∀ W, S W → (W.cell? ⟨g6, 0, none⟩ = some (.int .i64 ax) ∧ W.cell? ⟨g6, 1, none⟩ = some (.int .i64 ay)) ∧ W.cell? ⟨g7, 0, none⟩ = some (.int .i64 bx) ∧ W.cell? ⟨g7, 1, none⟩ = some (.int .i64 by')) := hid (fun W h => by
    rw [hSd] at h
    have h6 := h.2.2.1
    have h7 := h.2.2.2
    exact ⟨⟨by rw [h6.cell]; rfl, by rw [h6.cell]; rfl⟩, by rw [h7.cell]; rfl, by rw [h7.cell]; rfl⟩)
  have bd5 : Below w5.heap.size w5 w5.drew := (Below.refl _ _).drew
  have hSD := SU.out _ _ hS bd5
  replace R2 := hid (R2.out.below bd5 R2.out.lt)
  replace R3 := hid (R3.out.below bd5 R3.out.lt)
  replace R4 := hid (R4.out.below bd5 R4.out.lt)
  clear hSd hS K3 B3 X6 X7 bd5
  go_wp2_with fail
  refine wm_start (S := S) (by kernel_rfl) hSD ?_
  refine wm_take (i := 0) (v := ?_) rfl (by kernel_rfl) (by kernel_rfl) (by kernel_rfl) (fun _ _ _ h => h) (by kernel_rfl) ?_ ?_
  rotate_left
  (focus (intro w hSw; obtain ⟨⟨z0, z1⟩, z2, z3⟩ := CELLS.out _ hSw; go_simp; try with_reducible rfl))
  simp only [Act.put, List.setIfInBounds_toArray, List.set_cons_zero, List.set_cons_succ, List.getElem_toArray, List.getElem_cons_succ, List.getElem_cons_zero, Nat.reduceAdd]
  refine wm_take (i := 1) (v := ?_) rfl (by kernel_rfl) (by kernel_rfl) (by kernel_rfl) (fun _ _ _ h => h) (by kernel_rfl) ?_ ?_
  rotate_left
  (focus (intro w hSw; obtain ⟨⟨z0, z1⟩, z2, z3⟩ := CELLS.out _ hSw; go_simp; try with_reducible rfl))
  simp only [Act.put, List.setIfInBounds_toArray, List.set_cons_zero, List.set_cons_succ, List.getElem_toArray, List.getElem_cons_succ, List.getElem_cons_zero, Nat.reduceAdd]
  refine wm_take (i := 2) (v := ?_) rfl (by kernel_rfl) (by kernel_rfl) (by kernel_rfl) (fun _ _ _ h => h) (by kernel_rfl) ?_ ?_
  rotate_left
  (focus (intro w hSw; obtain ⟨⟨z0, z1⟩, z2, z3⟩ := CELLS.out _ hSw; go_simp; try with_reducible rfl))
  simp only [Act.put, List.setIfInBounds_toArray, List.set_cons_zero, List.set_cons_succ, List.getElem_toArray, List.getElem_cons_succ, List.getElem_cons_zero, Nat.reduceAdd]
  refine wm_each (l := [3]) (by kernel_rfl) (by simp) ?_
  intro v1 hv1 hS1
  replace R2 := hid (R2.out.below hv1 R2.out.lt)
  replace R3 := hid (R3.out.below hv1 R3.out.lt)
  replace R4 := hid (R4.out.below hv1 R4.out.lt)
  refine Each.cons rfl (fun K hK => ?_) Each.nil
  go_simp
  refine (drawNode_any p _ (SC.out _ hS1)).mono ?_
  rintro e w6 ⟨cx, cy, a0, a1, a2, a3, rfl, hk, hg⟩
  have CC := hid (show 0 ≤ cx ∧ cx ≤ 12 ∧ 0 ≤ cy ∧ cy ≤ 12 from ⟨a0, a1, a2, a3⟩)
  have hS6 := SP.out _ _ hS1 hk hg
  replace R2 := hid (R2.out.grow hg (fun e => by have := Option.some.inj e; have := G6.out; omega))
  replace R3 := hid (R3.out.grow hg (fun e => by have := Option.some.inj e; have := G6.out; omega))
  replace R4 := hid (R4.out.grow hg (fun e => by have := Option.some.inj e; have := G6.out; omega))
  clear hk hg a0 a1 a2 a3
  (try dsimp only)
  refine hK.out _ _ ⟨hS6, ?_⟩
  clear hK K
  (try simp only [Act.put, List.setIfInBounds_toArray, List.set_cons_zero, List.set_cons_succ, List.getElem_toArray, List.getElem_cons_succ, List.getElem_cons_zero, Nat.reduceAdd])
  refine wm_each (l := [4]) (by kernel_rfl) (by simp) ?_
  intro v4 hv4 hS4
  replace R2 := hid (R2.out.below hv4 R2.out.lt)
  replace R3 := hid (R3.out.below hv4 R3.out.lt)
  replace R4 := hid (R4.out.below hv4 R4.out.lt)
  have e0 : v4.cell? ⟨w.heap.size, 0, none⟩ = some (.int .i64 0) := by rw [R2.out.cell]; rfl
  have e1 : v4.cell? ⟨w.heap.size, 1, none⟩ = some (.int .i64 0) := by rw [R2.out.cell]; rfl
  have f0 : v4.frozen? ⟨w.heap.size, 0, none⟩ = false := R2.out.frozen 0
  have f1 : v4.frozen? ⟨w.heap.size, 1, none⟩ = false := R2.out.frozen 1
  refine Each.cons rfl (fun K hK => ?_) Each.nil
  go_simp
  have hSn := ST.out v4 w.heap.size (.int .i64 ax) (.int .i64 ay) hS4 (by omega) (by omega)
  replace R2 := hid (R2.out.put2 (.int .i64 ax) (.int .i64 ay))
  replace R3 := hid (R3.out.past2 (h := w.heap.size) (by omega) (.int .i64 ax) (.int .i64 ay))
  replace R4 := hid (R4.out.past2 (h := w.heap.size) (by omega) (.int .i64 ax) (.int .i64 ay))
  clear e0 e1 f0 f1
  (try dsimp only)
  refine hK.out _ _ ⟨hSn, ?_⟩
  clear hK K
  (try simp only [Act.put, List.setIfInBounds_toArray, List.set_cons_zero, List.set_cons_succ, List.getElem_toArray, List.getElem_cons_succ, List.getElem_cons_zero, Nat.reduceAdd])
  generalize (World.setCell _ _ _).setCell _ _ = u4 at hSn R2 R3 R4 ⊢
  refine wm_each (l := [5]) (by kernel_rfl) (by simp) ?_
  intro v5 hv5 hS5
  replace R2 := hid (R2.out.below hv5 R2.out.lt)
  replace R3 := hid (R3.out.below hv5 R3.out.lt)
  replace R4 := hid (R4.out.below hv5 R4.out.lt)
  have e0 : v5.cell? ⟨(w.heap.size + 1), 0, none⟩ = some (.int .i64 0) := by rw [R3.out.cell]; rfl
  have e1 : v5.cell? ⟨(w.heap.size + 1), 1, none⟩ = some (.int .i64 0) := by rw [R3.out.cell]; rfl
  have f0 : v5.frozen? ⟨(w.heap.size + 1), 0, none⟩ = false := R3.out.frozen 0
  have f1 : v5.frozen? ⟨(w.heap.size + 1), 1, none⟩ = false := R3.out.frozen 1
  refine Each.cons rfl (fun K hK => ?_) Each.nil
  go_simp
  have hSn := ST.out v5 (w.heap.size + 1) (.int .i64 bx) (.int .i64 by') hS5 (by omega) (by omega)
  replace R2 := hid (R2.out.past2 (h := (w.heap.size + 1)) (by omega) (.int .i64 bx) (.int .i64 by'))
  replace R3 := hid (R3.out.put2 (.int .i64 bx) (.int .i64 by'))
  replace R4 := hid (R4.out.past2 (h := (w.heap.size + 1)) (by omega) (.int .i64 bx) (.int .i64 by'))
  clear e0 e1 f0 f1
  (try dsimp only)
  refine hK.out _ _ ⟨hSn, ?_⟩
  clear hK K
  (try simp only [Act.put, List.setIfInBounds_toArray, List.set_cons_zero, List.set_cons_succ, List.getElem_toArray, List.getElem_cons_succ, List.getElem_cons_zero, Nat.reduceAdd])
  generalize (World.setCell _ _ _).setCell _ _ = u5 at hSn R2 R3 R4 ⊢
  refine wm_each (l := [6]) (by kernel_rfl) (by simp) ?_
  intro v6 hv6 hS6
  replace R2 := hid (R2.out.below hv6 R2.out.lt)
  replace R3 := hid (R3.out.below hv6 R3.out.lt)
  replace R4 := hid (R4.out.below hv6 R4.out.lt)
  have e0 : v6.cell? ⟨(w.heap.size + 1 + 1), 0, none⟩ = some (.int .i64 0) := by rw [R4.out.cell]; rfl
  have e1 : v6.cell? ⟨(w.heap.size + 1 + 1), 1, none⟩ = some (.int .i64 0) := by rw [R4.out.cell]; rfl
  have f0 : v6.frozen? ⟨(w.heap.size + 1 + 1), 0, none⟩ = false := R4.out.frozen 0
  have f1 : v6.frozen? ⟨(w.heap.size + 1 + 1), 1, none⟩ = false := R4.out.frozen 1
  refine Each.cons rfl (fun K hK => ?_) Each.nil
  go_simp
  have hSn := ST.out v6 (w.heap.size + 1 + 1) (.int .i64 cx) (.int .i64 cy) hS6 (by omega) (by omega)
  replace R2 := hid (R2.out.past2 (h := (w.heap.size + 1 + 1)) (by omega) (.int .i64 cx) (.int .i64 cy))
  replace R3 := hid (R3.out.past2 (h := (w.heap.size + 1 + 1)) (by omega) (.int .i64 cx) (.int .i64 cy))
  replace R4 := hid (R4.out.put2 (.int .i64 cx) (.int .i64 cy))
  clear e0 e1 f0 f1
  (try dsimp only)
  refine hK.out _ _ ⟨hSn, ?_⟩
  clear hK K
  (try simp only [Act.put, List.setIfInBounds_toArray, List.set_cons_zero, List.set_cons_succ, List.getElem_toArray, List.getElem_cons_succ, List.getElem_cons_zero, Nat.reduceAdd])
  generalize (World.setCell _ _ _).setCell _ _ = u6 at hSn R2 R3 R4 ⊢
  refine wm_done (by kernel_rfl) ?_
  intro w9 hv9 hS9
  replace R2 := hid (R2.out.below hv9 R2.out.lt)
  replace R3 := hid (R3.out.below hv9 R3.out.lt)
  replace R4 := hid (R4.out.below hv9 R4.out.lt)
  have t0 : w9.cell? ⟨w.heap.size, 0, none⟩ = some (.int .i64 ax) := by rw [R2.out.cell]; rfl
  have t1 : w9.cell? ⟨w.heap.size, 1, none⟩ = some (.int .i64 ay) := by rw [R2.out.cell]; rfl
  have t2 : w9.cell? ⟨w.heap.size + 1, 0, none⟩ = some (.int .i64 bx) := by rw [R3.out.cell]; rfl
  have t3 : w9.cell? ⟨w.heap.size + 1, 1, none⟩ = some (.int .i64 by') := by rw [R3.out.cell]; rfl
  have t4 : w9.cell? ⟨w.heap.size + 1 + 1, 0, none⟩ = some (.int .i64 cx) := by rw [R4.out.cell]; rfl
  have t5 : w9.cell? ⟨w.heap.size + 1 + 1, 1, none⟩ = some (.int .i64 cy) := by rw [R4.out.cell]; rfl
  have BF := hid (SB.out _ hS9)
  go_wp2
  exact bodyPost_ret (v := .tuple #[.agg #[.int .i64 ax, .int .i64 ay], .agg #[.int .i64 bx, .int .i64 by'], .agg #[.int .i64 cx, .int .i64 cy]]) (by simp [results, Try.results38, go_sem, t0, t1, t2, t3, t4, t5]) rfl ⟨_, _, _, _, _, _, AA.out, BB.out, CC.out, rfl, BF.out⟩
end Go.Proofs.Ytcfopbkahlkolaa.Bd

/- The program's comparison of two darts at a node of a valid window. No condition but that the window is valid and the darts go from the node. -/
import Derived.Test.YtdhppajfdcfikaaAroundS
import Derived.Test.YtdhppajfdcfikaaUp
namespace Go.Proofs.Ytdhppajfdcfikaa.Up
open Go.ChangeShapes Go.WideShapes Go.ChangeAt Go.RowKit
set_option maxHeartbeats 2000000
set_option linter.unusedSimpArgs false
set_option linter.unusedVariables false
def cmpD (ns ls : List (Int × Int)) (k d e : Int) : Int := if d = e then 0 else if befD ns ls k d e = true then -1 else 1
theorem xor_dart {ls : List (Int × Int)} {d : Nat} (hd : d < 2 * ls.length) (h20 : ls.length ≤ 20) : ∃ x : Int, bits .xor .i64 (d : Int) 1 = x ∧ 0 ≤ x ∧ x < 2 * (ls.length : Int) ∧ x ≤ 39 ∧ dFrom ls x = dTo ls (d : Int) := by
  refine ⟨_, rfl, ?_⟩
  rw [xor_one _ (by omega) (by omega)]
  refine ⟨by split <;> omega, by split <;> omega, by split <;> omega, dTo_eq _ _ (by omega)⟩
/-- block g holds just a node -/
def NBox (w : World) (g : Nat) (x y : Int) : Prop := w.heap[g]? = some (.cells #[.int .i64 x, .int .i64 y] 71)
theorem NBox.lt {w : World} {g : Nat} {x y : Int} (h : NBox w g x y) : g < w.heap.size := by
  unfold NBox at h
  exact (Array.getElem?_eq_some_iff.1 h).1
theorem NBox.below {w w' : World} {g : Nat} {x y : Int} (h : NBox w g x y) (hb : Below w.heap.size w w') : NBox w' g x y := by
  unfold NBox; rw [hb.block g h.lt]; exact h
theorem NBox.alloc {w : World} {g : Nat} {x y : Int} (h : NBox w g x y) (o : Obj) : NBox (w.alloc o) g x y := h.below ((Below.refl _ _).alloc (Nat.le_refl _) o)
theorem NBox.new (w : World) (x y : Int) : NBox (w.alloc (.cells #[.int .i64 x, .int .i64 y] 71)) w.heap.size x y := by
  unfold NBox World.alloc; simp
theorem NBox.c0 {w : World} {g : Nat} {x y : Int} (h : NBox w g x y) : w.cell? ⟨g, 0, none⟩ = some (.int .i64 x) := by
  unfold NBox at h; simp [World.cell?, h]
theorem NBox.c1 {w : World} {g : Nat} {x y : Int} (h : NBox w g x y) : w.cell? ⟨g, 1, none⟩ = some (.int .i64 y) := by
  unfold NBox at h; simp [World.cell?, h]
theorem NBox.fz {w : World} {g i : Nat} {x y : Int} (h : NBox w g x y) : w.frozen? ⟨g, i, none⟩ = false := by
  unfold NBox at h; simp [World.frozen?, h]
/-- the two cells of block g written anew -/
def wr2 (w : World) (g : Nat) (x y : Int) : World := (w.setCell ⟨g, 0, none⟩ (.int .i64 x)).setCell ⟨g, 1, none⟩ (.int .i64 y)
theorem NBox.set {w : World} {g : Nat} {x y : Int} (h : NBox w g x y) (x' y' : Int) : NBox (wr2 w g x' y') g x' y' := by
  unfold NBox at *
  have h1 := heap_setCell_same w g 0 #[.int .i64 x, .int .i64 y] 71 (.int .i64 x') h
  have h2 := heap_setCell_same _ g 1 _ 71 (.int .i64 y') h1
  exact h2
theorem NBox.other {w : World} {g g' : Nat} {x y : Int} (h : NBox w g x y) (hne : g ≠ g') (x' y' : Int) : NBox (wr2 w g' x' y') g x y := by
  unfold NBox wr2 at *
  rw [heap_setCell_other _ ⟨g', 1, none⟩ g _ hne, heap_setCell_other _ ⟨g', 0, none⟩ g _ hne]; exact h
theorem wr2_below {B : Nat} {w0 w : World} {g : Nat} (h : Below B w0 w) (hg : B ≤ g) (hB : B ≤ w.heap.size) (x y : Int) : Below B w0 (wr2 w g x y) := by
  unfold wr2
  exact (h.setCell (p := ⟨g, 0, none⟩) hg _).setCell (p := ⟨g, 1, none⟩) hg _
theorem cmp_any (A A' : Option Addr) (c c' : Nat) (ns ls : List (Int × Int)) (k d e bw bk : Nat) (w : World) (hb : BoxV w bw (.slice A ns.length c) (.slice A' ls.length c')) (hk9 : bk < w.heap.size) (hkc : w.cell? ⟨bk, 0, none⟩ = some (.int .i64 (k : Int)))
    (hn : PairsAt w (.slice A ns.length c) ns) (hl : PairsAt w (.slice A' ls.length c') ls) (F : WinFacts ns ls) (hk : k < ns.length) (hd : d < 2 * ls.length) (he : e < 2 * ls.length) (kd : dFrom ls (d : Int) = k) (ke : dFrom ls (e : Int) = k) :
    Calls Try.prog 109 #[.int .i64 (d : Int), .int .i64 (e : Int), .pointer (some ⟨bw, 0, none⟩), .pointer (some ⟨bk, 0, none⟩)] w fun r w' => r = .returned (.int .i64 (cmpD ns ls k d e)) ∧ Below w.heap.size w w' := by
  have hn12 := F.n2
  have hl20 := F.m2
  obtain ⟨xd, xd1, xd2, xd3, xd4, xd5⟩ := xor_dart hd hl20
  obtain ⟨xe, xe1, xe2, xe3, xe4, xe5⟩ := xor_dart he hl20
  obtain ⟨_, td, _, td1, _, td2, _⟩ := F.ends hd
  obtain ⟨_, te, _, te1, _, te2, _⟩ := F.ends he
  obtain ⟨x0, y0, f0⟩ : ∃ x y, ns[k]? = some (x, y) := ⟨_, _, List.getElem?_eq_getElem hk⟩
  obtain ⟨x1, y1, f1⟩ : ∃ x y, ns[td]? = some (x, y) := ⟨_, _, List.getElem?_eq_getElem td2⟩
  obtain ⟨x2, y2, f2⟩ : ∃ x y, ns[te]? = some (x, y) := ⟨_, _, List.getElem?_eq_getElem te2⟩
  obtain ⟨b, off, rfl, hbb, h1, h2⟩ := hn.at_ f0
  obtain ⟨b', off', e', hbb', h3, h4⟩ := hn.at_ f1
  obtain ⟨rfl, rfl⟩ : b = b' ∧ off = off' := by simpa using e'
  obtain ⟨b', off', e', hbb', h5, h6⟩ := hn.at_ f2
  obtain ⟨rfl, rfl⟩ : b = b' ∧ off = off' := by simpa using e'
  clear e' hbb'
  have BF := hid (show bef x0 y0 x1 y1 x2 y2 = befD ns ls k d e by
    have := bef_bef0 (F.ok3 hk td2 te2)
    rw [ptN_of f0, ptN_of f1, ptN_of f2] at this
    unfold befD
    rw [td1, te1]
    simp only [Int.toNat_natCast]
    rw [ptN_of f0, ptN_of f1, ptN_of f2]; exact this)
  have hk0 : (0 : Int) ≤ (k : Int) := by omega
  have hk1 : (k : Int) < (ns.length : Int) := by omega
  have ht0 : (0 : Int) ≤ (td : Int) := by omega
  have ht1 : (td : Int) < (ns.length : Int) := by omega
  have hu0 : (0 : Int) ≤ (te : Int) := by omega
  have hu1 : (te : Int) < (ns.length : Int) := by omega
  have W0 := hid (Below.refl w.heap.size w)
  have CN := hid (fun W (h : Below w.heap.size w W) => hn.below h.toBelow)
  have C1 := hid (fun W (h : Below w.heap.size w W) => iDartFrom0 _ _ ns ls xd W (hn.below h.toBelow) (hl.below h.toBelow) xd2 xd3 xd4)
  have C2 := hid (fun W (h : Below w.heap.size w W) => iDartFrom0 _ _ ns ls xe W (hn.below h.toBelow) (hl.below h.toBelow) xe2 xe3 xe4)
  rw [xd5, td1] at C1
  rw [xe5, te1] at C2
  have CELLS := hid (fun W (h : Below w.heap.size w W) => And.intro (hb.below h.toBelow).c0 (And.intro (hb.below h.toBelow).c1 (And.intro ((h.cell (p := ⟨bk, 0, none⟩) hk9).trans hkc) (And.intro ((h.cell (p := ⟨b, _, none⟩) hbb).trans h1) (And.intro ((h.cell (p := ⟨b, _, none⟩) hbb).trans h2) (And.intro ((h.cell (p := ⟨b, _, none⟩) hbb).trans h3) (And.intro ((h.cell (p := ⟨b, _, none⟩) hbb).trans h4) (And.intro ((h.cell (p := ⟨b, _, none⟩) hbb).trans h5) ((h.cell (p := ⟨b, _, none⟩) hbb).trans h6)))))))))
  have FF := hid F
  clear h1 h2 h3 h4 h5 h6 hn hl hb hkc hk9 hbb f0 f1 f2 xd2 xd3 xd4 xd5 xe2 xe3 xe4 xe5 td1 te1 td2 te2 kd ke F hd he hn12 hl20
  go_enter Try.func109, Try.ntmps109
  go_wp2_with fail
  refine wm_start (S := fun W => Below w.heap.size w W) (by kernel_rfl) (Below.refl _ _).drew ?_
  refine wm_take (i := 0) (v := ?_) rfl (by kernel_rfl) (by kernel_rfl) (by kernel_rfl) (fun _ _ _ h => h) (by kernel_rfl) ?_ ?_
  rotate_left
  (focus (intro w hSw; obtain ⟨z0, z1, z2, z3, z4, z5, z6, z7, z8⟩ := CELLS.out _ hSw; go_simp; try with_reducible rfl))
  simp only [Act.put, List.setIfInBounds_toArray, List.set_cons_zero, List.set_cons_succ, List.getElem_toArray, List.getElem_cons_succ, List.getElem_cons_zero, Nat.reduceAdd]
  refine wm_take (i := 1) (v := ?_) rfl (by kernel_rfl) (by kernel_rfl) (by kernel_rfl) (fun _ _ _ h => h) (by kernel_rfl) ?_ ?_
  rotate_left
  (focus (intro w hSw; obtain ⟨z0, z1, z2, z3, z4, z5, z6, z7, z8⟩ := CELLS.out _ hSw; go_simp; try with_reducible rfl))
  simp only [Act.put, List.setIfInBounds_toArray, List.set_cons_zero, List.set_cons_succ, List.getElem_toArray, List.getElem_cons_succ, List.getElem_cons_zero, Nat.reduceAdd]
  refine wm_take (i := 2) (v := ?_) rfl (by kernel_rfl) (by kernel_rfl) (by kernel_rfl) (fun _ _ _ h => h) (by kernel_rfl) ?_ ?_
  rotate_left
  (focus (intro w hSw; obtain ⟨z0, z1, z2, z3, z4, z5, z6, z7, z8⟩ := CELLS.out _ hSw; go_simp; try with_reducible rfl))
  simp only [Act.put, List.setIfInBounds_toArray, List.set_cons_zero, List.set_cons_succ, List.getElem_toArray, List.getElem_cons_succ, List.getElem_cons_zero, Nat.reduceAdd]
  refine wm_take (i := 3) (v := ?_) rfl (by kernel_rfl) (by kernel_rfl) (by kernel_rfl) (fun _ _ _ h => h) (by kernel_rfl) ?_ ?_
  rotate_left
  (focus (intro w hSw; obtain ⟨z0, z1, z2, z3, z4, z5, z6, z7, z8⟩ := CELLS.out _ hSw; go_simp; try with_reducible rfl))
  simp only [Act.put, List.setIfInBounds_toArray, List.set_cons_zero, List.set_cons_succ, List.getElem_toArray, List.getElem_cons_succ, List.getElem_cons_zero, Nat.reduceAdd]
  refine wm_take (i := 4) (v := ?_) rfl (by kernel_rfl) (by kernel_rfl) (by kernel_rfl) (fun _ _ _ h => h) (by kernel_rfl) ?_ ?_
  rotate_left
  (focus (intro w hSw; obtain ⟨z0, z1, z2, z3, z4, z5, z6, z7, z8⟩ := CELLS.out _ hSw; go_simp; try with_reducible rfl))
  simp only [Act.put, List.setIfInBounds_toArray, List.set_cons_zero, List.set_cons_succ, List.getElem_toArray, List.getElem_cons_succ, List.getElem_cons_zero, Nat.reduceAdd]
  refine wm_take (i := 5) (v := ?_) rfl (by kernel_rfl) (by kernel_rfl) (by kernel_rfl) (fun _ _ _ h => h) (by kernel_rfl) ?_ ?_
  rotate_left
  (focus (intro w hSw; obtain ⟨z0, z1, z2, z3, z4, z5, z6, z7, z8⟩ := CELLS.out _ hSw; go_simp; try with_reducible rfl))
  simp only [Act.put, List.setIfInBounds_toArray, List.set_cons_zero, List.set_cons_succ, List.getElem_toArray, List.getElem_cons_succ, List.getElem_cons_zero, Nat.reduceAdd]
  refine wm_take (i := 6) (v := ?_) rfl (by kernel_rfl) (by kernel_rfl) (by kernel_rfl) (fun _ _ _ h => h) (by kernel_rfl) ?_ ?_
  rotate_left
  (focus (intro w hSw; obtain ⟨z0, z1, z2, z3, z4, z5, z6, z7, z8⟩ := CELLS.out _ hSw; go_simp; try with_reducible rfl))
  simp only [Act.put, List.setIfInBounds_toArray, List.set_cons_zero, List.set_cons_succ, List.getElem_toArray, List.getElem_cons_succ, List.getElem_cons_zero, Nat.reduceAdd]
  refine wm_take (i := 7) (v := ?_) rfl (by kernel_rfl) (by kernel_rfl) (by kernel_rfl) (fun _ _ _ h => h) (by kernel_rfl) ?_ ?_
  rotate_left
  (focus (intro w hSw; obtain ⟨z0, z1, z2, z3, z4, z5, z6, z7, z8⟩ := CELLS.out _ hSw; go_simp; try with_reducible rfl))
  simp only [Act.put, List.setIfInBounds_toArray, List.set_cons_zero, List.set_cons_succ, List.getElem_toArray, List.getElem_cons_succ, List.getElem_cons_zero, Nat.reduceAdd]
  refine wm_take (i := 8) (v := ?_) rfl (by kernel_rfl) (by kernel_rfl) (by kernel_rfl) (fun _ _ _ h => h) (by kernel_rfl) ?_ ?_
  rotate_left
  (focus (intro w hSw; obtain ⟨z0, z1, z2, z3, z4, z5, z6, z7, z8⟩ := CELLS.out _ hSw; go_simp; try with_reducible rfl))
  simp only [Act.put, List.setIfInBounds_toArray, List.set_cons_zero, List.set_cons_succ, List.getElem_toArray, List.getElem_cons_succ, List.getElem_cons_zero, Nat.reduceAdd]
  refine wm_take (i := 9) (v := ?_) rfl (by kernel_rfl) (by kernel_rfl) (by kernel_rfl) (fun _ _ _ h => h) (by kernel_rfl) ?_ ?_
  rotate_left
  (focus (intro w hSw; obtain ⟨z0, z1, z2, z3, z4, z5, z6, z7, z8⟩ := CELLS.out _ hSw; go_simp; try with_reducible rfl))
  simp only [Act.put, List.setIfInBounds_toArray, List.set_cons_zero, List.set_cons_succ, List.getElem_toArray, List.getElem_cons_succ, List.getElem_cons_zero, Nat.reduceAdd]
  refine wm_call (i := 10) (v := .int .i64 (td : Int)) (f := ?_) (args := ?_) rfl (by kernel_rfl) (by kernel_rfl) (by kernel_rfl) (fun _ _ _ h => h) (by kernel_rfl) ?_ ?_ ?_
  rotate_left 2
  (focus (intro w; go_simp; refine ⟨?_, ?_⟩ <;> with_reducible rfl))
  (focus (intro w hSw; refine (C1.out w hSw).mono ?_; rintro e w3 ⟨rfl, hb3⟩; exact ⟨rfl, hb3, then_ hSw hb3 hSw.size⟩))
  simp only [Act.put, List.setIfInBounds_toArray, List.set_cons_zero, List.set_cons_succ, List.getElem_toArray, List.getElem_cons_succ, List.getElem_cons_zero, Nat.reduceAdd]
  refine wm_take (i := 11) (v := ?_) rfl (by kernel_rfl) (by kernel_rfl) (by kernel_rfl) (fun _ _ _ h => h) (by kernel_rfl) ?_ ?_
  rotate_left
  (focus (intro w hSw; obtain ⟨z0, z1, z2, z3, z4, z5, z6, z7, z8⟩ := CELLS.out _ hSw; go_simp; try with_reducible rfl))
  simp only [Act.put, List.setIfInBounds_toArray, List.set_cons_zero, List.set_cons_succ, List.getElem_toArray, List.getElem_cons_succ, List.getElem_cons_zero, Nat.reduceAdd]
  refine wm_take (i := 12) (v := ?_) rfl (by kernel_rfl) (by kernel_rfl) (by kernel_rfl) (fun _ _ _ h => h) (by kernel_rfl) ?_ ?_
  rotate_left
  (focus (intro w hSw; obtain ⟨z0, z1, z2, z3, z4, z5, z6, z7, z8⟩ := CELLS.out _ hSw; go_simp; try with_reducible rfl))
  simp only [Act.put, List.setIfInBounds_toArray, List.set_cons_zero, List.set_cons_succ, List.getElem_toArray, List.getElem_cons_succ, List.getElem_cons_zero, Nat.reduceAdd]
  refine wm_take (i := 13) (v := ?_) rfl (by kernel_rfl) (by kernel_rfl) (by kernel_rfl) (fun _ _ _ h => h) (by kernel_rfl) ?_ ?_
  rotate_left
  (focus (intro w hSw; obtain ⟨z0, z1, z2, z3, z4, z5, z6, z7, z8⟩ := CELLS.out _ hSw; go_simp; try with_reducible rfl))
  simp only [Act.put, List.setIfInBounds_toArray, List.set_cons_zero, List.set_cons_succ, List.getElem_toArray, List.getElem_cons_succ, List.getElem_cons_zero, Nat.reduceAdd]
  refine wm_take (i := 14) (v := ?_) rfl (by kernel_rfl) (by kernel_rfl) (by kernel_rfl) (fun _ _ _ h => h) (by kernel_rfl) ?_ ?_
  rotate_left
  (focus (intro w hSw; obtain ⟨z0, z1, z2, z3, z4, z5, z6, z7, z8⟩ := CELLS.out _ hSw; go_simp; try with_reducible rfl))
  simp only [Act.put, List.setIfInBounds_toArray, List.set_cons_zero, List.set_cons_succ, List.getElem_toArray, List.getElem_cons_succ, List.getElem_cons_zero, Nat.reduceAdd]
  refine wm_take (i := 15) (v := ?_) rfl (by kernel_rfl) (by kernel_rfl) (by kernel_rfl) (fun _ _ _ h => h) (by kernel_rfl) ?_ ?_
  rotate_left
  (focus (intro w hSw; obtain ⟨z0, z1, z2, z3, z4, z5, z6, z7, z8⟩ := CELLS.out _ hSw; go_simp; try with_reducible rfl))
  simp only [Act.put, List.setIfInBounds_toArray, List.set_cons_zero, List.set_cons_succ, List.getElem_toArray, List.getElem_cons_succ, List.getElem_cons_zero, Nat.reduceAdd]
  refine wm_take (i := 16) (v := ?_) rfl (by kernel_rfl) (by kernel_rfl) (by kernel_rfl) (fun _ _ _ h => h) (by kernel_rfl) ?_ ?_
  rotate_left
  (focus (intro w hSw; obtain ⟨z0, z1, z2, z3, z4, z5, z6, z7, z8⟩ := CELLS.out _ hSw; go_simp; try with_reducible rfl))
  simp only [Act.put, List.setIfInBounds_toArray, List.set_cons_zero, List.set_cons_succ, List.getElem_toArray, List.getElem_cons_succ, List.getElem_cons_zero, Nat.reduceAdd]
  refine wm_take (i := 17) (v := ?_) rfl (by kernel_rfl) (by kernel_rfl) (by kernel_rfl) (fun _ _ _ h => h) (by kernel_rfl) ?_ ?_
  rotate_left
  (focus (intro w hSw; obtain ⟨z0, z1, z2, z3, z4, z5, z6, z7, z8⟩ := CELLS.out _ hSw; go_simp; try with_reducible rfl))
  simp only [Act.put, List.setIfInBounds_toArray, List.set_cons_zero, List.set_cons_succ, List.getElem_toArray, List.getElem_cons_succ, List.getElem_cons_zero, Nat.reduceAdd]
  refine wm_call (i := 18) (v := .int .i64 (te : Int)) (f := ?_) (args := ?_) rfl (by kernel_rfl) (by kernel_rfl) (by kernel_rfl) (fun _ _ _ h => h) (by kernel_rfl) ?_ ?_ ?_
  rotate_left 2
  (focus (intro w; go_simp; refine ⟨?_, ?_⟩ <;> with_reducible rfl))
  (focus (intro w hSw; refine (C2.out w hSw).mono ?_; rintro e w3 ⟨rfl, hb3⟩; exact ⟨rfl, hb3, then_ hSw hb3 hSw.size⟩))
  simp only [Act.put, List.setIfInBounds_toArray, List.set_cons_zero, List.set_cons_succ, List.getElem_toArray, List.getElem_cons_succ, List.getElem_cons_zero, Nat.reduceAdd]
  refine wm_take (i := 19) (v := ?_) rfl (by kernel_rfl) (by kernel_rfl) (by kernel_rfl) (fun _ _ _ h => h) (by kernel_rfl) ?_ ?_
  rotate_left
  (focus (intro w hSw; obtain ⟨z0, z1, z2, z3, z4, z5, z6, z7, z8⟩ := CELLS.out _ hSw; go_simp; try with_reducible rfl))
  simp only [Act.put, List.setIfInBounds_toArray, List.set_cons_zero, List.set_cons_succ, List.getElem_toArray, List.getElem_cons_succ, List.getElem_cons_zero, Nat.reduceAdd]
  refine wm_take (i := 20) (v := ?_) rfl (by kernel_rfl) (by kernel_rfl) (by kernel_rfl) (fun _ _ _ h => h) (by kernel_rfl) ?_ ?_
  rotate_left
  (focus (intro w hSw; obtain ⟨z0, z1, z2, z3, z4, z5, z6, z7, z8⟩ := CELLS.out _ hSw; go_simp; try with_reducible rfl))
  simp only [Act.put, List.setIfInBounds_toArray, List.set_cons_zero, List.set_cons_succ, List.getElem_toArray, List.getElem_cons_succ, List.getElem_cons_zero, Nat.reduceAdd]
  refine wm_each (l := [21, 22, 23]) (by kernel_rfl) (by simp) ?_
  intro W1 hb1 hS1
  refine Each.cons rfl (fun K hK => ?_) (Each.cons rfl (fun K hK => ?_) (Each.cons rfl (fun K hK => ?_) (Each.nil)))
  · have hS := hS1.alloc hS1.size (.cells #[.int .i64 0, .int .i64 0] 71)
    go_simp
    refine hK.out _ _ ⟨hS, ?_⟩
    clear hK K
    (try simp only [Act.put, List.setIfInBounds_toArray, List.set_cons_zero, List.set_cons_succ, List.getElem_toArray, List.getElem_cons_succ, List.getElem_cons_zero, Nat.reduceAdd])
    refine wm_each (l := [22, 23]) (by kernel_rfl) (by simp) ?_
    intro W2 hb2 hS2
    refine Each.cons rfl (fun K hK => ?_) (Each.cons rfl (fun K hK => ?_) (Each.nil))
    · have hS := hS2.alloc hS2.size (.cells #[.int .i64 0, .int .i64 0] 71)
      go_simp
      refine hK.out _ _ ⟨hS, ?_⟩
      clear hK K
      (try simp only [Act.put, List.setIfInBounds_toArray, List.set_cons_zero, List.set_cons_succ, List.getElem_toArray, List.getElem_cons_succ, List.getElem_cons_zero, Nat.reduceAdd])
      refine wm_each (l := [23]) (by kernel_rfl) (by simp) ?_
      intro W3 hb3 hS3
      refine Each.cons rfl (fun K hK => ?_) (Each.nil)
      · have hS := hS3.alloc hS3.size (.cells #[.int .i64 0, .int .i64 0] 71)
        go_simp
        refine hK.out _ _ ⟨hS, ?_⟩
        clear hK K
        (try simp only [Act.put, List.setIfInBounds_toArray, List.set_cons_zero, List.set_cons_succ, List.getElem_toArray, List.getElem_cons_succ, List.getElem_cons_zero, Nat.reduceAdd])
        have n7 := NBox.new W1 0 0
        have n7 := (n7.below hb2).alloc (.cells #[.int .i64 0, .int .i64 0] 71)
        have n7 := (n7.below hb3).alloc (.cells #[.int .i64 0, .int .i64 0] 71)
        have g7 := hS1.size
        have n8 := NBox.new W2 0 0
        have n8 := (n8.below hb3).alloc (.cells #[.int .i64 0, .int .i64 0] 71)
        have g8 := hS2.size
        have n9 := NBox.new W3 0 0
        have g9 := hS3.size
        have d12 : W1.heap.size < W2.heap.size := by have := hb2.size; simp at this; omega
        have d23 : W2.heap.size < W3.heap.size := by have := hb3.size; simp at this; omega
        obtain ⟨p7, e7⟩ : ∃ p, p = W1.heap.size := ⟨_, rfl⟩
        obtain ⟨p8, e8⟩ : ∃ p, p = W2.heap.size := ⟨_, rfl⟩
        obtain ⟨p9, e9⟩ : ∃ p, p = W3.heap.size := ⟨_, rfl⟩
        rw [← e7] at n7 g7
        rw [← e8] at n8 g8
        rw [← e9] at n9 g9
        have D := hid (show p7 ≠ p8 ∧ p7 ≠ p9 ∧ p8 ≠ p9 by omega)
        rw [← e7, ← e8, ← e9]
        clear hb2 hb3 hS1 hS2 hS3 hS d12 d23 e7 e8 e9
        generalize W3.alloc _ = V0 at n7 n8 n9 ⊢
        refine wm_each (l := [24]) (by kernel_rfl) (by simp) ?_
        intro V1 hv1 hT1
        replace n7 := n7.below hv1
        replace n8 := n8.below hv1
        replace n9 := n9.below hv1
        have c0 := n7.c0
        have c1 := n7.c1
        have z0 := n7.fz (i := 0)
        have z1 := n7.fz (i := 1)
        refine Each.cons rfl (fun K hK => ?_) Each.nil
        go_simp
        refine hK.out _ _ ⟨wr2_below hT1 g7 hT1.size x0 y0, ?_⟩
        clear hK K c0 c1 z0 z1
        have hS := wr2_below hT1 g7 hT1.size x0 y0
        (try simp only [Act.put, List.setIfInBounds_toArray, List.set_cons_zero, List.set_cons_succ, List.getElem_toArray, List.getElem_cons_succ, List.getElem_cons_zero, Nat.reduceAdd])
        change wpAnyM _ _ _ _ _ _ _ _ (wr2 V1 p7 x0 y0)
        replace n7 := n7.set x0 y0
        replace n8 := n8.other (by have := D.out; omega) x0 y0 (g' := p7)
        replace n9 := n9.other (by have := D.out; omega) x0 y0 (g' := p7)
        generalize wr2 V1 p7 x0 y0 = V0 at n7 n8 n9 hS ⊢
        clear hv1 hT1 hS V1
        refine wm_each (l := [25]) (by kernel_rfl) (by simp) ?_
        intro V1 hv1 hT1
        replace n7 := n7.below hv1
        replace n8 := n8.below hv1
        replace n9 := n9.below hv1
        have c0 := n8.c0
        have c1 := n8.c1
        have z0 := n8.fz (i := 0)
        have z1 := n8.fz (i := 1)
        refine Each.cons rfl (fun K hK => ?_) Each.nil
        go_simp
        refine hK.out _ _ ⟨wr2_below hT1 g8 hT1.size x1 y1, ?_⟩
        clear hK K c0 c1 z0 z1
        have hS := wr2_below hT1 g8 hT1.size x1 y1
        (try simp only [Act.put, List.setIfInBounds_toArray, List.set_cons_zero, List.set_cons_succ, List.getElem_toArray, List.getElem_cons_succ, List.getElem_cons_zero, Nat.reduceAdd])
        change wpAnyM _ _ _ _ _ _ _ _ (wr2 V1 p8 x1 y1)
        replace n7 := n7.other (by have := D.out; omega) x1 y1 (g' := p8)
        replace n8 := n8.set x1 y1
        replace n9 := n9.other (by have := D.out; omega) x1 y1 (g' := p8)
        generalize wr2 V1 p8 x1 y1 = V0 at n7 n8 n9 hS ⊢
        clear hv1 hT1 hS V1
        refine wm_each (l := [26]) (by kernel_rfl) (by simp) ?_
        intro V1 hv1 hT1
        replace n7 := n7.below hv1
        replace n8 := n8.below hv1
        replace n9 := n9.below hv1
        have c0 := n9.c0
        have c1 := n9.c1
        have z0 := n9.fz (i := 0)
        have z1 := n9.fz (i := 1)
        refine Each.cons rfl (fun K hK => ?_) Each.nil
        go_simp
        refine hK.out _ _ ⟨wr2_below hT1 g9 hT1.size x2 y2, ?_⟩
        clear hK K c0 c1 z0 z1
        have hS := wr2_below hT1 g9 hT1.size x2 y2
        (try simp only [Act.put, List.setIfInBounds_toArray, List.set_cons_zero, List.set_cons_succ, List.getElem_toArray, List.getElem_cons_succ, List.getElem_cons_zero, Nat.reduceAdd])
        change wpAnyM _ _ _ _ _ _ _ _ (wr2 V1 p9 x2 y2)
        replace n7 := n7.other (by have := D.out; omega) x2 y2 (g' := p9)
        replace n8 := n8.other (by have := D.out; omega) x2 y2 (g' := p9)
        replace n9 := n9.set x2 y2
        generalize wr2 V1 p9 x2 y2 = V0 at n7 n8 n9 hS ⊢
        clear hv1 hT1 hS V1
        refine wm_done (by kernel_rfl) ?_
        intro V1 hv1 hT1
        replace n7 := n7.below hv1
        replace n8 := n8.below hv1
        replace n9 := n9.below hv1
        have a7 := n7.c0
        have b7 := n7.c1
        have a8 := n8.c0
        have b8 := n8.c1
        have a9 := n9.c0
        have b9 := n9.c1
        have HT := hid hT1
        clear n7 n8 n9 hv1 hT1 D g7 g8 g9
        by_cases hde : d = e
        · have hq : ((d : Int) == (e : Int)) = true := by simp [hde]
          have E := hid (show cmpD ns ls k d e = 0 by unfold cmpD; rw [if_pos (by omega)])
          clear hde
          go_wp2
          go_ret
          exact ⟨ret_int (by rw [E.out]), HT.out⟩
        · have hq : ((d : Int) == (e : Int)) = false := by simp; omega
          cases hbf : befD ns ls k d e
          · have E := hid (show cmpD ns ls k d e = 1 by unfold cmpD; rw [if_neg (by omega), hbf]; rfl)
            have BB := BF
            rw [hbf] at BB
            clear hde hbf
            go_wp2_with fail
            refine (iBef_any x0 y0 x1 y1 x2 y2 _).mono ?_
            rintro r w5 ⟨rfl, hb5⟩
            rw [BB.out]
            go_wp2
            go_ret
            exact ⟨ret_int (by rw [E.out]), then_ HT.out hb5 HT.out.size⟩
          · have E := hid (show cmpD ns ls k d e = -1 by unfold cmpD; rw [if_neg (by omega), hbf]; rfl)
            have BB := BF
            rw [hbf] at BB
            clear hde hbf
            go_wp2_with fail
            refine (iBef_any x0 y0 x1 y1 x2 y2 _).mono ?_
            rintro r w5 ⟨rfl, hb5⟩
            rw [BB.out]
            go_wp2
            go_ret
            exact ⟨ret_int (by rw [E.out]), then_ HT.out hb5 HT.out.size⟩
    · have hS := hS2.alloc hS2.size (.cells #[.int .i64 0, .int .i64 0] 71)
      go_simp
      refine hK.out _ _ ⟨hS, ?_⟩
      clear hK K
      (try simp only [Act.put, List.setIfInBounds_toArray, List.set_cons_zero, List.set_cons_succ, List.getElem_toArray, List.getElem_cons_succ, List.getElem_cons_zero, Nat.reduceAdd])
      refine wm_each (l := [22]) (by kernel_rfl) (by simp) ?_
      intro W3 hb3 hS3
      refine Each.cons rfl (fun K hK => ?_) (Each.nil)
      · have hS := hS3.alloc hS3.size (.cells #[.int .i64 0, .int .i64 0] 71)
        go_simp
        refine hK.out _ _ ⟨hS, ?_⟩
        clear hK K
        (try simp only [Act.put, List.setIfInBounds_toArray, List.set_cons_zero, List.set_cons_succ, List.getElem_toArray, List.getElem_cons_succ, List.getElem_cons_zero, Nat.reduceAdd])
        have n7 := NBox.new W1 0 0
        have n7 := (n7.below hb2).alloc (.cells #[.int .i64 0, .int .i64 0] 71)
        have n7 := (n7.below hb3).alloc (.cells #[.int .i64 0, .int .i64 0] 71)
        have g7 := hS1.size
        have n8 := NBox.new W3 0 0
        have g8 := hS3.size
        have n9 := NBox.new W2 0 0
        have n9 := (n9.below hb3).alloc (.cells #[.int .i64 0, .int .i64 0] 71)
        have g9 := hS2.size
        have d12 : W1.heap.size < W2.heap.size := by have := hb2.size; simp at this; omega
        have d23 : W2.heap.size < W3.heap.size := by have := hb3.size; simp at this; omega
        obtain ⟨p7, e7⟩ : ∃ p, p = W1.heap.size := ⟨_, rfl⟩
        obtain ⟨p8, e8⟩ : ∃ p, p = W3.heap.size := ⟨_, rfl⟩
        obtain ⟨p9, e9⟩ : ∃ p, p = W2.heap.size := ⟨_, rfl⟩
        rw [← e7] at n7 g7
        rw [← e8] at n8 g8
        rw [← e9] at n9 g9
        have D := hid (show p7 ≠ p8 ∧ p7 ≠ p9 ∧ p8 ≠ p9 by omega)
        rw [← e7, ← e8, ← e9]
        clear hb2 hb3 hS1 hS2 hS3 hS d12 d23 e7 e8 e9
        generalize W3.alloc _ = V0 at n7 n8 n9 ⊢
        refine wm_each (l := [24]) (by kernel_rfl) (by simp) ?_
        intro V1 hv1 hT1
        replace n7 := n7.below hv1
        replace n8 := n8.below hv1
        replace n9 := n9.below hv1
        have c0 := n7.c0
        have c1 := n7.c1
        have z0 := n7.fz (i := 0)
        have z1 := n7.fz (i := 1)
        refine Each.cons rfl (fun K hK => ?_) Each.nil
        go_simp
        refine hK.out _ _ ⟨wr2_below hT1 g7 hT1.size x0 y0, ?_⟩
        clear hK K c0 c1 z0 z1
        have hS := wr2_below hT1 g7 hT1.size x0 y0
        (try simp only [Act.put, List.setIfInBounds_toArray, List.set_cons_zero, List.set_cons_succ, List.getElem_toArray, List.getElem_cons_succ, List.getElem_cons_zero, Nat.reduceAdd])
        change wpAnyM _ _ _ _ _ _ _ _ (wr2 V1 p7 x0 y0)
        replace n7 := n7.set x0 y0
        replace n8 := n8.other (by have := D.out; omega) x0 y0 (g' := p7)
        replace n9 := n9.other (by have := D.out; omega) x0 y0 (g' := p7)
        generalize wr2 V1 p7 x0 y0 = V0 at n7 n8 n9 hS ⊢
        clear hv1 hT1 hS V1
        refine wm_each (l := [25]) (by kernel_rfl) (by simp) ?_
        intro V1 hv1 hT1
        replace n7 := n7.below hv1
        replace n8 := n8.below hv1
        replace n9 := n9.below hv1
        have c0 := n8.c0
        have c1 := n8.c1
        have z0 := n8.fz (i := 0)
        have z1 := n8.fz (i := 1)
        refine Each.cons rfl (fun K hK => ?_) Each.nil
        go_simp
        refine hK.out _ _ ⟨wr2_below hT1 g8 hT1.size x1 y1, ?_⟩
        clear hK K c0 c1 z0 z1
        have hS := wr2_below hT1 g8 hT1.size x1 y1
        (try simp only [Act.put, List.setIfInBounds_toArray, List.set_cons_zero, List.set_cons_succ, List.getElem_toArray, List.getElem_cons_succ, List.getElem_cons_zero, Nat.reduceAdd])
        change wpAnyM _ _ _ _ _ _ _ _ (wr2 V1 p8 x1 y1)
        replace n7 := n7.other (by have := D.out; omega) x1 y1 (g' := p8)
        replace n8 := n8.set x1 y1
        replace n9 := n9.other (by have := D.out; omega) x1 y1 (g' := p8)
        generalize wr2 V1 p8 x1 y1 = V0 at n7 n8 n9 hS ⊢
        clear hv1 hT1 hS V1
        refine wm_each (l := [26]) (by kernel_rfl) (by simp) ?_
        intro V1 hv1 hT1
        replace n7 := n7.below hv1
        replace n8 := n8.below hv1
        replace n9 := n9.below hv1
        have c0 := n9.c0
        have c1 := n9.c1
        have z0 := n9.fz (i := 0)
        have z1 := n9.fz (i := 1)
        refine Each.cons rfl (fun K hK => ?_) Each.nil
        go_simp
        refine hK.out _ _ ⟨wr2_below hT1 g9 hT1.size x2 y2, ?_⟩
        clear hK K c0 c1 z0 z1
        have hS := wr2_below hT1 g9 hT1.size x2 y2
        (try simp only [Act.put, List.setIfInBounds_toArray, List.set_cons_zero, List.set_cons_succ, List.getElem_toArray, List.getElem_cons_succ, List.getElem_cons_zero, Nat.reduceAdd])
        change wpAnyM _ _ _ _ _ _ _ _ (wr2 V1 p9 x2 y2)
        replace n7 := n7.other (by have := D.out; omega) x2 y2 (g' := p9)
        replace n8 := n8.other (by have := D.out; omega) x2 y2 (g' := p9)
        replace n9 := n9.set x2 y2
        generalize wr2 V1 p9 x2 y2 = V0 at n7 n8 n9 hS ⊢
        clear hv1 hT1 hS V1
        refine wm_done (by kernel_rfl) ?_
        intro V1 hv1 hT1
        replace n7 := n7.below hv1
        replace n8 := n8.below hv1
        replace n9 := n9.below hv1
        have a7 := n7.c0
        have b7 := n7.c1
        have a8 := n8.c0
        have b8 := n8.c1
        have a9 := n9.c0
        have b9 := n9.c1
        have HT := hid hT1
        clear n7 n8 n9 hv1 hT1 D g7 g8 g9
        by_cases hde : d = e
        · have hq : ((d : Int) == (e : Int)) = true := by simp [hde]
          have E := hid (show cmpD ns ls k d e = 0 by unfold cmpD; rw [if_pos (by omega)])
          clear hde
          go_wp2
          go_ret
          exact ⟨ret_int (by rw [E.out]), HT.out⟩
        · have hq : ((d : Int) == (e : Int)) = false := by simp; omega
          cases hbf : befD ns ls k d e
          · have E := hid (show cmpD ns ls k d e = 1 by unfold cmpD; rw [if_neg (by omega), hbf]; rfl)
            have BB := BF
            rw [hbf] at BB
            clear hde hbf
            go_wp2_with fail
            refine (iBef_any x0 y0 x1 y1 x2 y2 _).mono ?_
            rintro r w5 ⟨rfl, hb5⟩
            rw [BB.out]
            go_wp2
            go_ret
            exact ⟨ret_int (by rw [E.out]), then_ HT.out hb5 HT.out.size⟩
          · have E := hid (show cmpD ns ls k d e = -1 by unfold cmpD; rw [if_neg (by omega), hbf]; rfl)
            have BB := BF
            rw [hbf] at BB
            clear hde hbf
            go_wp2_with fail
            refine (iBef_any x0 y0 x1 y1 x2 y2 _).mono ?_
            rintro r w5 ⟨rfl, hb5⟩
            rw [BB.out]
            go_wp2
            go_ret
            exact ⟨ret_int (by rw [E.out]), then_ HT.out hb5 HT.out.size⟩
  · have hS := hS1.alloc hS1.size (.cells #[.int .i64 0, .int .i64 0] 71)
    go_simp
    refine hK.out _ _ ⟨hS, ?_⟩
    clear hK K
    (try simp only [Act.put, List.setIfInBounds_toArray, List.set_cons_zero, List.set_cons_succ, List.getElem_toArray, List.getElem_cons_succ, List.getElem_cons_zero, Nat.reduceAdd])
    refine wm_each (l := [21, 23]) (by kernel_rfl) (by simp) ?_
    intro W2 hb2 hS2
    refine Each.cons rfl (fun K hK => ?_) (Each.cons rfl (fun K hK => ?_) (Each.nil))
    · have hS := hS2.alloc hS2.size (.cells #[.int .i64 0, .int .i64 0] 71)
      go_simp
      refine hK.out _ _ ⟨hS, ?_⟩
      clear hK K
      (try simp only [Act.put, List.setIfInBounds_toArray, List.set_cons_zero, List.set_cons_succ, List.getElem_toArray, List.getElem_cons_succ, List.getElem_cons_zero, Nat.reduceAdd])
      refine wm_each (l := [23]) (by kernel_rfl) (by simp) ?_
      intro W3 hb3 hS3
      refine Each.cons rfl (fun K hK => ?_) (Each.nil)
      · have hS := hS3.alloc hS3.size (.cells #[.int .i64 0, .int .i64 0] 71)
        go_simp
        refine hK.out _ _ ⟨hS, ?_⟩
        clear hK K
        (try simp only [Act.put, List.setIfInBounds_toArray, List.set_cons_zero, List.set_cons_succ, List.getElem_toArray, List.getElem_cons_succ, List.getElem_cons_zero, Nat.reduceAdd])
        have n7 := NBox.new W2 0 0
        have n7 := (n7.below hb3).alloc (.cells #[.int .i64 0, .int .i64 0] 71)
        have g7 := hS2.size
        have n8 := NBox.new W1 0 0
        have n8 := (n8.below hb2).alloc (.cells #[.int .i64 0, .int .i64 0] 71)
        have n8 := (n8.below hb3).alloc (.cells #[.int .i64 0, .int .i64 0] 71)
        have g8 := hS1.size
        have n9 := NBox.new W3 0 0
        have g9 := hS3.size
        have d12 : W1.heap.size < W2.heap.size := by have := hb2.size; simp at this; omega
        have d23 : W2.heap.size < W3.heap.size := by have := hb3.size; simp at this; omega
        obtain ⟨p7, e7⟩ : ∃ p, p = W2.heap.size := ⟨_, rfl⟩
        obtain ⟨p8, e8⟩ : ∃ p, p = W1.heap.size := ⟨_, rfl⟩
        obtain ⟨p9, e9⟩ : ∃ p, p = W3.heap.size := ⟨_, rfl⟩
        rw [← e7] at n7 g7
        rw [← e8] at n8 g8
        rw [← e9] at n9 g9
        have D := hid (show p7 ≠ p8 ∧ p7 ≠ p9 ∧ p8 ≠ p9 by omega)
        rw [← e7, ← e8, ← e9]
        clear hb2 hb3 hS1 hS2 hS3 hS d12 d23 e7 e8 e9
        generalize W3.alloc _ = V0 at n7 n8 n9 ⊢
        refine wm_each (l := [24]) (by kernel_rfl) (by simp) ?_
        intro V1 hv1 hT1
        replace n7 := n7.below hv1
        replace n8 := n8.below hv1
        replace n9 := n9.below hv1
        have c0 := n7.c0
        have c1 := n7.c1
        have z0 := n7.fz (i := 0)
        have z1 := n7.fz (i := 1)
        refine Each.cons rfl (fun K hK => ?_) Each.nil
        go_simp
        refine hK.out _ _ ⟨wr2_below hT1 g7 hT1.size x0 y0, ?_⟩
        clear hK K c0 c1 z0 z1
        have hS := wr2_below hT1 g7 hT1.size x0 y0
        (try simp only [Act.put, List.setIfInBounds_toArray, List.set_cons_zero, List.set_cons_succ, List.getElem_toArray, List.getElem_cons_succ, List.getElem_cons_zero, Nat.reduceAdd])
        change wpAnyM _ _ _ _ _ _ _ _ (wr2 V1 p7 x0 y0)
        replace n7 := n7.set x0 y0
        replace n8 := n8.other (by have := D.out; omega) x0 y0 (g' := p7)
        replace n9 := n9.other (by have := D.out; omega) x0 y0 (g' := p7)
        generalize wr2 V1 p7 x0 y0 = V0 at n7 n8 n9 hS ⊢
        clear hv1 hT1 hS V1
        refine wm_each (l := [25]) (by kernel_rfl) (by simp) ?_
        intro V1 hv1 hT1
        replace n7 := n7.below hv1
        replace n8 := n8.below hv1
        replace n9 := n9.below hv1
        have c0 := n8.c0
        have c1 := n8.c1
        have z0 := n8.fz (i := 0)
        have z1 := n8.fz (i := 1)
        refine Each.cons rfl (fun K hK => ?_) Each.nil
        go_simp
        refine hK.out _ _ ⟨wr2_below hT1 g8 hT1.size x1 y1, ?_⟩
        clear hK K c0 c1 z0 z1
        have hS := wr2_below hT1 g8 hT1.size x1 y1
        (try simp only [Act.put, List.setIfInBounds_toArray, List.set_cons_zero, List.set_cons_succ, List.getElem_toArray, List.getElem_cons_succ, List.getElem_cons_zero, Nat.reduceAdd])
        change wpAnyM _ _ _ _ _ _ _ _ (wr2 V1 p8 x1 y1)
        replace n7 := n7.other (by have := D.out; omega) x1 y1 (g' := p8)
        replace n8 := n8.set x1 y1
        replace n9 := n9.other (by have := D.out; omega) x1 y1 (g' := p8)
        generalize wr2 V1 p8 x1 y1 = V0 at n7 n8 n9 hS ⊢
        clear hv1 hT1 hS V1
        refine wm_each (l := [26]) (by kernel_rfl) (by simp) ?_
        intro V1 hv1 hT1
        replace n7 := n7.below hv1
        replace n8 := n8.below hv1
        replace n9 := n9.below hv1
        have c0 := n9.c0
        have c1 := n9.c1
        have z0 := n9.fz (i := 0)
        have z1 := n9.fz (i := 1)
        refine Each.cons rfl (fun K hK => ?_) Each.nil
        go_simp
        refine hK.out _ _ ⟨wr2_below hT1 g9 hT1.size x2 y2, ?_⟩
        clear hK K c0 c1 z0 z1
        have hS := wr2_below hT1 g9 hT1.size x2 y2
        (try simp only [Act.put, List.setIfInBounds_toArray, List.set_cons_zero, List.set_cons_succ, List.getElem_toArray, List.getElem_cons_succ, List.getElem_cons_zero, Nat.reduceAdd])
        change wpAnyM _ _ _ _ _ _ _ _ (wr2 V1 p9 x2 y2)
        replace n7 := n7.other (by have := D.out; omega) x2 y2 (g' := p9)
        replace n8 := n8.other (by have := D.out; omega) x2 y2 (g' := p9)
        replace n9 := n9.set x2 y2
        generalize wr2 V1 p9 x2 y2 = V0 at n7 n8 n9 hS ⊢
        clear hv1 hT1 hS V1
        refine wm_done (by kernel_rfl) ?_
        intro V1 hv1 hT1
        replace n7 := n7.below hv1
        replace n8 := n8.below hv1
        replace n9 := n9.below hv1
        have a7 := n7.c0
        have b7 := n7.c1
        have a8 := n8.c0
        have b8 := n8.c1
        have a9 := n9.c0
        have b9 := n9.c1
        have HT := hid hT1
        clear n7 n8 n9 hv1 hT1 D g7 g8 g9
        by_cases hde : d = e
        · have hq : ((d : Int) == (e : Int)) = true := by simp [hde]
          have E := hid (show cmpD ns ls k d e = 0 by unfold cmpD; rw [if_pos (by omega)])
          clear hde
          go_wp2
          go_ret
          exact ⟨ret_int (by rw [E.out]), HT.out⟩
        · have hq : ((d : Int) == (e : Int)) = false := by simp; omega
          cases hbf : befD ns ls k d e
          · have E := hid (show cmpD ns ls k d e = 1 by unfold cmpD; rw [if_neg (by omega), hbf]; rfl)
            have BB := BF
            rw [hbf] at BB
            clear hde hbf
            go_wp2_with fail
            refine (iBef_any x0 y0 x1 y1 x2 y2 _).mono ?_
            rintro r w5 ⟨rfl, hb5⟩
            rw [BB.out]
            go_wp2
            go_ret
            exact ⟨ret_int (by rw [E.out]), then_ HT.out hb5 HT.out.size⟩
          · have E := hid (show cmpD ns ls k d e = -1 by unfold cmpD; rw [if_neg (by omega), hbf]; rfl)
            have BB := BF
            rw [hbf] at BB
            clear hde hbf
            go_wp2_with fail
            refine (iBef_any x0 y0 x1 y1 x2 y2 _).mono ?_
            rintro r w5 ⟨rfl, hb5⟩
            rw [BB.out]
            go_wp2
            go_ret
            exact ⟨ret_int (by rw [E.out]), then_ HT.out hb5 HT.out.size⟩
    · have hS := hS2.alloc hS2.size (.cells #[.int .i64 0, .int .i64 0] 71)
      go_simp
      refine hK.out _ _ ⟨hS, ?_⟩
      clear hK K
      (try simp only [Act.put, List.setIfInBounds_toArray, List.set_cons_zero, List.set_cons_succ, List.getElem_toArray, List.getElem_cons_succ, List.getElem_cons_zero, Nat.reduceAdd])
      refine wm_each (l := [21]) (by kernel_rfl) (by simp) ?_
      intro W3 hb3 hS3
      refine Each.cons rfl (fun K hK => ?_) (Each.nil)
      · have hS := hS3.alloc hS3.size (.cells #[.int .i64 0, .int .i64 0] 71)
        go_simp
        refine hK.out _ _ ⟨hS, ?_⟩
        clear hK K
        (try simp only [Act.put, List.setIfInBounds_toArray, List.set_cons_zero, List.set_cons_succ, List.getElem_toArray, List.getElem_cons_succ, List.getElem_cons_zero, Nat.reduceAdd])
        have n7 := NBox.new W3 0 0
        have g7 := hS3.size
        have n8 := NBox.new W1 0 0
        have n8 := (n8.below hb2).alloc (.cells #[.int .i64 0, .int .i64 0] 71)
        have n8 := (n8.below hb3).alloc (.cells #[.int .i64 0, .int .i64 0] 71)
        have g8 := hS1.size
        have n9 := NBox.new W2 0 0
        have n9 := (n9.below hb3).alloc (.cells #[.int .i64 0, .int .i64 0] 71)
        have g9 := hS2.size
        have d12 : W1.heap.size < W2.heap.size := by have := hb2.size; simp at this; omega
        have d23 : W2.heap.size < W3.heap.size := by have := hb3.size; simp at this; omega
        obtain ⟨p7, e7⟩ : ∃ p, p = W3.heap.size := ⟨_, rfl⟩
        obtain ⟨p8, e8⟩ : ∃ p, p = W1.heap.size := ⟨_, rfl⟩
        obtain ⟨p9, e9⟩ : ∃ p, p = W2.heap.size := ⟨_, rfl⟩
        rw [← e7] at n7 g7
        rw [← e8] at n8 g8
        rw [← e9] at n9 g9
        have D := hid (show p7 ≠ p8 ∧ p7 ≠ p9 ∧ p8 ≠ p9 by omega)
        rw [← e7, ← e8, ← e9]
        clear hb2 hb3 hS1 hS2 hS3 hS d12 d23 e7 e8 e9
        generalize W3.alloc _ = V0 at n7 n8 n9 ⊢
        refine wm_each (l := [24]) (by kernel_rfl) (by simp) ?_
        intro V1 hv1 hT1
        replace n7 := n7.below hv1
        replace n8 := n8.below hv1
        replace n9 := n9.below hv1
        have c0 := n7.c0
        have c1 := n7.c1
        have z0 := n7.fz (i := 0)
        have z1 := n7.fz (i := 1)
        refine Each.cons rfl (fun K hK => ?_) Each.nil
        go_simp
        refine hK.out _ _ ⟨wr2_below hT1 g7 hT1.size x0 y0, ?_⟩
        clear hK K c0 c1 z0 z1
        have hS := wr2_below hT1 g7 hT1.size x0 y0
        (try simp only [Act.put, List.setIfInBounds_toArray, List.set_cons_zero, List.set_cons_succ, List.getElem_toArray, List.getElem_cons_succ, List.getElem_cons_zero, Nat.reduceAdd])
        change wpAnyM _ _ _ _ _ _ _ _ (wr2 V1 p7 x0 y0)
        replace n7 := n7.set x0 y0
        replace n8 := n8.other (by have := D.out; omega) x0 y0 (g' := p7)
        replace n9 := n9.other (by have := D.out; omega) x0 y0 (g' := p7)
        generalize wr2 V1 p7 x0 y0 = V0 at n7 n8 n9 hS ⊢
        clear hv1 hT1 hS V1
        refine wm_each (l := [25]) (by kernel_rfl) (by simp) ?_
        intro V1 hv1 hT1
        replace n7 := n7.below hv1
        replace n8 := n8.below hv1
        replace n9 := n9.below hv1
        have c0 := n8.c0
        have c1 := n8.c1
        have z0 := n8.fz (i := 0)
        have z1 := n8.fz (i := 1)
        refine Each.cons rfl (fun K hK => ?_) Each.nil
        go_simp
        refine hK.out _ _ ⟨wr2_below hT1 g8 hT1.size x1 y1, ?_⟩
        clear hK K c0 c1 z0 z1
        have hS := wr2_below hT1 g8 hT1.size x1 y1
        (try simp only [Act.put, List.setIfInBounds_toArray, List.set_cons_zero, List.set_cons_succ, List.getElem_toArray, List.getElem_cons_succ, List.getElem_cons_zero, Nat.reduceAdd])
        change wpAnyM _ _ _ _ _ _ _ _ (wr2 V1 p8 x1 y1)
        replace n7 := n7.other (by have := D.out; omega) x1 y1 (g' := p8)
        replace n8 := n8.set x1 y1
        replace n9 := n9.other (by have := D.out; omega) x1 y1 (g' := p8)
        generalize wr2 V1 p8 x1 y1 = V0 at n7 n8 n9 hS ⊢
        clear hv1 hT1 hS V1
        refine wm_each (l := [26]) (by kernel_rfl) (by simp) ?_
        intro V1 hv1 hT1
        replace n7 := n7.below hv1
        replace n8 := n8.below hv1
        replace n9 := n9.below hv1
        have c0 := n9.c0
        have c1 := n9.c1
        have z0 := n9.fz (i := 0)
        have z1 := n9.fz (i := 1)
        refine Each.cons rfl (fun K hK => ?_) Each.nil
        go_simp
        refine hK.out _ _ ⟨wr2_below hT1 g9 hT1.size x2 y2, ?_⟩
        clear hK K c0 c1 z0 z1
        have hS := wr2_below hT1 g9 hT1.size x2 y2
        (try simp only [Act.put, List.setIfInBounds_toArray, List.set_cons_zero, List.set_cons_succ, List.getElem_toArray, List.getElem_cons_succ, List.getElem_cons_zero, Nat.reduceAdd])
        change wpAnyM _ _ _ _ _ _ _ _ (wr2 V1 p9 x2 y2)
        replace n7 := n7.other (by have := D.out; omega) x2 y2 (g' := p9)
        replace n8 := n8.other (by have := D.out; omega) x2 y2 (g' := p9)
        replace n9 := n9.set x2 y2
        generalize wr2 V1 p9 x2 y2 = V0 at n7 n8 n9 hS ⊢
        clear hv1 hT1 hS V1
        refine wm_done (by kernel_rfl) ?_
        intro V1 hv1 hT1
        replace n7 := n7.below hv1
        replace n8 := n8.below hv1
        replace n9 := n9.below hv1
        have a7 := n7.c0
        have b7 := n7.c1
        have a8 := n8.c0
        have b8 := n8.c1
        have a9 := n9.c0
        have b9 := n9.c1
        have HT := hid hT1
        clear n7 n8 n9 hv1 hT1 D g7 g8 g9
        by_cases hde : d = e
        · have hq : ((d : Int) == (e : Int)) = true := by simp [hde]
          have E := hid (show cmpD ns ls k d e = 0 by unfold cmpD; rw [if_pos (by omega)])
          clear hde
          go_wp2
          go_ret
          exact ⟨ret_int (by rw [E.out]), HT.out⟩
        · have hq : ((d : Int) == (e : Int)) = false := by simp; omega
          cases hbf : befD ns ls k d e
          · have E := hid (show cmpD ns ls k d e = 1 by unfold cmpD; rw [if_neg (by omega), hbf]; rfl)
            have BB := BF
            rw [hbf] at BB
            clear hde hbf
            go_wp2_with fail
            refine (iBef_any x0 y0 x1 y1 x2 y2 _).mono ?_
            rintro r w5 ⟨rfl, hb5⟩
            rw [BB.out]
            go_wp2
            go_ret
            exact ⟨ret_int (by rw [E.out]), then_ HT.out hb5 HT.out.size⟩
          · have E := hid (show cmpD ns ls k d e = -1 by unfold cmpD; rw [if_neg (by omega), hbf]; rfl)
            have BB := BF
            rw [hbf] at BB
            clear hde hbf
            go_wp2_with fail
            refine (iBef_any x0 y0 x1 y1 x2 y2 _).mono ?_
            rintro r w5 ⟨rfl, hb5⟩
            rw [BB.out]
            go_wp2
            go_ret
            exact ⟨ret_int (by rw [E.out]), then_ HT.out hb5 HT.out.size⟩
  · have hS := hS1.alloc hS1.size (.cells #[.int .i64 0, .int .i64 0] 71)
    go_simp
    refine hK.out _ _ ⟨hS, ?_⟩
    clear hK K
    (try simp only [Act.put, List.setIfInBounds_toArray, List.set_cons_zero, List.set_cons_succ, List.getElem_toArray, List.getElem_cons_succ, List.getElem_cons_zero, Nat.reduceAdd])
    refine wm_each (l := [21, 22]) (by kernel_rfl) (by simp) ?_
    intro W2 hb2 hS2
    refine Each.cons rfl (fun K hK => ?_) (Each.cons rfl (fun K hK => ?_) (Each.nil))
    · have hS := hS2.alloc hS2.size (.cells #[.int .i64 0, .int .i64 0] 71)
      go_simp
      refine hK.out _ _ ⟨hS, ?_⟩
      clear hK K
      (try simp only [Act.put, List.setIfInBounds_toArray, List.set_cons_zero, List.set_cons_succ, List.getElem_toArray, List.getElem_cons_succ, List.getElem_cons_zero, Nat.reduceAdd])
      refine wm_each (l := [22]) (by kernel_rfl) (by simp) ?_
      intro W3 hb3 hS3
      refine Each.cons rfl (fun K hK => ?_) (Each.nil)
      · have hS := hS3.alloc hS3.size (.cells #[.int .i64 0, .int .i64 0] 71)
        go_simp
        refine hK.out _ _ ⟨hS, ?_⟩
        clear hK K
        (try simp only [Act.put, List.setIfInBounds_toArray, List.set_cons_zero, List.set_cons_succ, List.getElem_toArray, List.getElem_cons_succ, List.getElem_cons_zero, Nat.reduceAdd])
        have n7 := NBox.new W2 0 0
        have n7 := (n7.below hb3).alloc (.cells #[.int .i64 0, .int .i64 0] 71)
        have g7 := hS2.size
        have n8 := NBox.new W3 0 0
        have g8 := hS3.size
        have n9 := NBox.new W1 0 0
        have n9 := (n9.below hb2).alloc (.cells #[.int .i64 0, .int .i64 0] 71)
        have n9 := (n9.below hb3).alloc (.cells #[.int .i64 0, .int .i64 0] 71)
        have g9 := hS1.size
        have d12 : W1.heap.size < W2.heap.size := by have := hb2.size; simp at this; omega
        have d23 : W2.heap.size < W3.heap.size := by have := hb3.size; simp at this; omega
        obtain ⟨p7, e7⟩ : ∃ p, p = W2.heap.size := ⟨_, rfl⟩
        obtain ⟨p8, e8⟩ : ∃ p, p = W3.heap.size := ⟨_, rfl⟩
        obtain ⟨p9, e9⟩ : ∃ p, p = W1.heap.size := ⟨_, rfl⟩
        rw [← e7] at n7 g7
        rw [← e8] at n8 g8
        rw [← e9] at n9 g9
        have D := hid (show p7 ≠ p8 ∧ p7 ≠ p9 ∧ p8 ≠ p9 by omega)
        rw [← e7, ← e8, ← e9]
        clear hb2 hb3 hS1 hS2 hS3 hS d12 d23 e7 e8 e9
        generalize W3.alloc _ = V0 at n7 n8 n9 ⊢
        refine wm_each (l := [24]) (by kernel_rfl) (by simp) ?_
        intro V1 hv1 hT1
        replace n7 := n7.below hv1
        replace n8 := n8.below hv1
        replace n9 := n9.below hv1
        have c0 := n7.c0
        have c1 := n7.c1
        have z0 := n7.fz (i := 0)
        have z1 := n7.fz (i := 1)
        refine Each.cons rfl (fun K hK => ?_) Each.nil
        go_simp
        refine hK.out _ _ ⟨wr2_below hT1 g7 hT1.size x0 y0, ?_⟩
        clear hK K c0 c1 z0 z1
        have hS := wr2_below hT1 g7 hT1.size x0 y0
        (try simp only [Act.put, List.setIfInBounds_toArray, List.set_cons_zero, List.set_cons_succ, List.getElem_toArray, List.getElem_cons_succ, List.getElem_cons_zero, Nat.reduceAdd])
        change wpAnyM _ _ _ _ _ _ _ _ (wr2 V1 p7 x0 y0)
        replace n7 := n7.set x0 y0
        replace n8 := n8.other (by have := D.out; omega) x0 y0 (g' := p7)
        replace n9 := n9.other (by have := D.out; omega) x0 y0 (g' := p7)
        generalize wr2 V1 p7 x0 y0 = V0 at n7 n8 n9 hS ⊢
        clear hv1 hT1 hS V1
        refine wm_each (l := [25]) (by kernel_rfl) (by simp) ?_
        intro V1 hv1 hT1
        replace n7 := n7.below hv1
        replace n8 := n8.below hv1
        replace n9 := n9.below hv1
        have c0 := n8.c0
        have c1 := n8.c1
        have z0 := n8.fz (i := 0)
        have z1 := n8.fz (i := 1)
        refine Each.cons rfl (fun K hK => ?_) Each.nil
        go_simp
        refine hK.out _ _ ⟨wr2_below hT1 g8 hT1.size x1 y1, ?_⟩
        clear hK K c0 c1 z0 z1
        have hS := wr2_below hT1 g8 hT1.size x1 y1
        (try simp only [Act.put, List.setIfInBounds_toArray, List.set_cons_zero, List.set_cons_succ, List.getElem_toArray, List.getElem_cons_succ, List.getElem_cons_zero, Nat.reduceAdd])
        change wpAnyM _ _ _ _ _ _ _ _ (wr2 V1 p8 x1 y1)
        replace n7 := n7.other (by have := D.out; omega) x1 y1 (g' := p8)
        replace n8 := n8.set x1 y1
        replace n9 := n9.other (by have := D.out; omega) x1 y1 (g' := p8)
        generalize wr2 V1 p8 x1 y1 = V0 at n7 n8 n9 hS ⊢
        clear hv1 hT1 hS V1
        refine wm_each (l := [26]) (by kernel_rfl) (by simp) ?_
        intro V1 hv1 hT1
        replace n7 := n7.below hv1
        replace n8 := n8.below hv1
        replace n9 := n9.below hv1
        have c0 := n9.c0
        have c1 := n9.c1
        have z0 := n9.fz (i := 0)
        have z1 := n9.fz (i := 1)
        refine Each.cons rfl (fun K hK => ?_) Each.nil
        go_simp
        refine hK.out _ _ ⟨wr2_below hT1 g9 hT1.size x2 y2, ?_⟩
        clear hK K c0 c1 z0 z1
        have hS := wr2_below hT1 g9 hT1.size x2 y2
        (try simp only [Act.put, List.setIfInBounds_toArray, List.set_cons_zero, List.set_cons_succ, List.getElem_toArray, List.getElem_cons_succ, List.getElem_cons_zero, Nat.reduceAdd])
        change wpAnyM _ _ _ _ _ _ _ _ (wr2 V1 p9 x2 y2)
        replace n7 := n7.other (by have := D.out; omega) x2 y2 (g' := p9)
        replace n8 := n8.other (by have := D.out; omega) x2 y2 (g' := p9)
        replace n9 := n9.set x2 y2
        generalize wr2 V1 p9 x2 y2 = V0 at n7 n8 n9 hS ⊢
        clear hv1 hT1 hS V1
        refine wm_done (by kernel_rfl) ?_
        intro V1 hv1 hT1
        replace n7 := n7.below hv1
        replace n8 := n8.below hv1
        replace n9 := n9.below hv1
        have a7 := n7.c0
        have b7 := n7.c1
        have a8 := n8.c0
        have b8 := n8.c1
        have a9 := n9.c0
        have b9 := n9.c1
        have HT := hid hT1
        clear n7 n8 n9 hv1 hT1 D g7 g8 g9
        by_cases hde : d = e
        · have hq : ((d : Int) == (e : Int)) = true := by simp [hde]
          have E := hid (show cmpD ns ls k d e = 0 by unfold cmpD; rw [if_pos (by omega)])
          clear hde
          go_wp2
          go_ret
          exact ⟨ret_int (by rw [E.out]), HT.out⟩
        · have hq : ((d : Int) == (e : Int)) = false := by simp; omega
          cases hbf : befD ns ls k d e
          · have E := hid (show cmpD ns ls k d e = 1 by unfold cmpD; rw [if_neg (by omega), hbf]; rfl)
            have BB := BF
            rw [hbf] at BB
            clear hde hbf
            go_wp2_with fail
            refine (iBef_any x0 y0 x1 y1 x2 y2 _).mono ?_
            rintro r w5 ⟨rfl, hb5⟩
            rw [BB.out]
            go_wp2
            go_ret
            exact ⟨ret_int (by rw [E.out]), then_ HT.out hb5 HT.out.size⟩
          · have E := hid (show cmpD ns ls k d e = -1 by unfold cmpD; rw [if_neg (by omega), hbf]; rfl)
            have BB := BF
            rw [hbf] at BB
            clear hde hbf
            go_wp2_with fail
            refine (iBef_any x0 y0 x1 y1 x2 y2 _).mono ?_
            rintro r w5 ⟨rfl, hb5⟩
            rw [BB.out]
            go_wp2
            go_ret
            exact ⟨ret_int (by rw [E.out]), then_ HT.out hb5 HT.out.size⟩
    · have hS := hS2.alloc hS2.size (.cells #[.int .i64 0, .int .i64 0] 71)
      go_simp
      refine hK.out _ _ ⟨hS, ?_⟩
      clear hK K
      (try simp only [Act.put, List.setIfInBounds_toArray, List.set_cons_zero, List.set_cons_succ, List.getElem_toArray, List.getElem_cons_succ, List.getElem_cons_zero, Nat.reduceAdd])
      refine wm_each (l := [21]) (by kernel_rfl) (by simp) ?_
      intro W3 hb3 hS3
      refine Each.cons rfl (fun K hK => ?_) (Each.nil)
      · have hS := hS3.alloc hS3.size (.cells #[.int .i64 0, .int .i64 0] 71)
        go_simp
        refine hK.out _ _ ⟨hS, ?_⟩
        clear hK K
        (try simp only [Act.put, List.setIfInBounds_toArray, List.set_cons_zero, List.set_cons_succ, List.getElem_toArray, List.getElem_cons_succ, List.getElem_cons_zero, Nat.reduceAdd])
        have n7 := NBox.new W3 0 0
        have g7 := hS3.size
        have n8 := NBox.new W2 0 0
        have n8 := (n8.below hb3).alloc (.cells #[.int .i64 0, .int .i64 0] 71)
        have g8 := hS2.size
        have n9 := NBox.new W1 0 0
        have n9 := (n9.below hb2).alloc (.cells #[.int .i64 0, .int .i64 0] 71)
        have n9 := (n9.below hb3).alloc (.cells #[.int .i64 0, .int .i64 0] 71)
        have g9 := hS1.size
        have d12 : W1.heap.size < W2.heap.size := by have := hb2.size; simp at this; omega
        have d23 : W2.heap.size < W3.heap.size := by have := hb3.size; simp at this; omega
        obtain ⟨p7, e7⟩ : ∃ p, p = W3.heap.size := ⟨_, rfl⟩
        obtain ⟨p8, e8⟩ : ∃ p, p = W2.heap.size := ⟨_, rfl⟩
        obtain ⟨p9, e9⟩ : ∃ p, p = W1.heap.size := ⟨_, rfl⟩
        rw [← e7] at n7 g7
        rw [← e8] at n8 g8
        rw [← e9] at n9 g9
        have D := hid (show p7 ≠ p8 ∧ p7 ≠ p9 ∧ p8 ≠ p9 by omega)
        rw [← e7, ← e8, ← e9]
        clear hb2 hb3 hS1 hS2 hS3 hS d12 d23 e7 e8 e9
        generalize W3.alloc _ = V0 at n7 n8 n9 ⊢
        refine wm_each (l := [24]) (by kernel_rfl) (by simp) ?_
        intro V1 hv1 hT1
        replace n7 := n7.below hv1
        replace n8 := n8.below hv1
        replace n9 := n9.below hv1
        have c0 := n7.c0
        have c1 := n7.c1
        have z0 := n7.fz (i := 0)
        have z1 := n7.fz (i := 1)
        refine Each.cons rfl (fun K hK => ?_) Each.nil
        go_simp
        refine hK.out _ _ ⟨wr2_below hT1 g7 hT1.size x0 y0, ?_⟩
        clear hK K c0 c1 z0 z1
        have hS := wr2_below hT1 g7 hT1.size x0 y0
        (try simp only [Act.put, List.setIfInBounds_toArray, List.set_cons_zero, List.set_cons_succ, List.getElem_toArray, List.getElem_cons_succ, List.getElem_cons_zero, Nat.reduceAdd])
        change wpAnyM _ _ _ _ _ _ _ _ (wr2 V1 p7 x0 y0)
        replace n7 := n7.set x0 y0
        replace n8 := n8.other (by have := D.out; omega) x0 y0 (g' := p7)
        replace n9 := n9.other (by have := D.out; omega) x0 y0 (g' := p7)
        generalize wr2 V1 p7 x0 y0 = V0 at n7 n8 n9 hS ⊢
        clear hv1 hT1 hS V1
        refine wm_each (l := [25]) (by kernel_rfl) (by simp) ?_
        intro V1 hv1 hT1
        replace n7 := n7.below hv1
        replace n8 := n8.below hv1
        replace n9 := n9.below hv1
        have c0 := n8.c0
        have c1 := n8.c1
        have z0 := n8.fz (i := 0)
        have z1 := n8.fz (i := 1)
        refine Each.cons rfl (fun K hK => ?_) Each.nil
        go_simp
        refine hK.out _ _ ⟨wr2_below hT1 g8 hT1.size x1 y1, ?_⟩
        clear hK K c0 c1 z0 z1
        have hS := wr2_below hT1 g8 hT1.size x1 y1
        (try simp only [Act.put, List.setIfInBounds_toArray, List.set_cons_zero, List.set_cons_succ, List.getElem_toArray, List.getElem_cons_succ, List.getElem_cons_zero, Nat.reduceAdd])
        change wpAnyM _ _ _ _ _ _ _ _ (wr2 V1 p8 x1 y1)
        replace n7 := n7.other (by have := D.out; omega) x1 y1 (g' := p8)
        replace n8 := n8.set x1 y1
        replace n9 := n9.other (by have := D.out; omega) x1 y1 (g' := p8)
        generalize wr2 V1 p8 x1 y1 = V0 at n7 n8 n9 hS ⊢
        clear hv1 hT1 hS V1
        refine wm_each (l := [26]) (by kernel_rfl) (by simp) ?_
        intro V1 hv1 hT1
        replace n7 := n7.below hv1
        replace n8 := n8.below hv1
        replace n9 := n9.below hv1
        have c0 := n9.c0
        have c1 := n9.c1
        have z0 := n9.fz (i := 0)
        have z1 := n9.fz (i := 1)
        refine Each.cons rfl (fun K hK => ?_) Each.nil
        go_simp
        refine hK.out _ _ ⟨wr2_below hT1 g9 hT1.size x2 y2, ?_⟩
        clear hK K c0 c1 z0 z1
        have hS := wr2_below hT1 g9 hT1.size x2 y2
        (try simp only [Act.put, List.setIfInBounds_toArray, List.set_cons_zero, List.set_cons_succ, List.getElem_toArray, List.getElem_cons_succ, List.getElem_cons_zero, Nat.reduceAdd])
        change wpAnyM _ _ _ _ _ _ _ _ (wr2 V1 p9 x2 y2)
        replace n7 := n7.other (by have := D.out; omega) x2 y2 (g' := p9)
        replace n8 := n8.other (by have := D.out; omega) x2 y2 (g' := p9)
        replace n9 := n9.set x2 y2
        generalize wr2 V1 p9 x2 y2 = V0 at n7 n8 n9 hS ⊢
        clear hv1 hT1 hS V1
        refine wm_done (by kernel_rfl) ?_
        intro V1 hv1 hT1
        replace n7 := n7.below hv1
        replace n8 := n8.below hv1
        replace n9 := n9.below hv1
        have a7 := n7.c0
        have b7 := n7.c1
        have a8 := n8.c0
        have b8 := n8.c1
        have a9 := n9.c0
        have b9 := n9.c1
        have HT := hid hT1
        clear n7 n8 n9 hv1 hT1 D g7 g8 g9
        by_cases hde : d = e
        · have hq : ((d : Int) == (e : Int)) = true := by simp [hde]
          have E := hid (show cmpD ns ls k d e = 0 by unfold cmpD; rw [if_pos (by omega)])
          clear hde
          go_wp2
          go_ret
          exact ⟨ret_int (by rw [E.out]), HT.out⟩
        · have hq : ((d : Int) == (e : Int)) = false := by simp; omega
          cases hbf : befD ns ls k d e
          · have E := hid (show cmpD ns ls k d e = 1 by unfold cmpD; rw [if_neg (by omega), hbf]; rfl)
            have BB := BF
            rw [hbf] at BB
            clear hde hbf
            go_wp2_with fail
            refine (iBef_any x0 y0 x1 y1 x2 y2 _).mono ?_
            rintro r w5 ⟨rfl, hb5⟩
            rw [BB.out]
            go_wp2
            go_ret
            exact ⟨ret_int (by rw [E.out]), then_ HT.out hb5 HT.out.size⟩
          · have E := hid (show cmpD ns ls k d e = -1 by unfold cmpD; rw [if_neg (by omega), hbf]; rfl)
            have BB := BF
            rw [hbf] at BB
            clear hde hbf
            go_wp2_with fail
            refine (iBef_any x0 y0 x1 y1 x2 y2 _).mono ?_
            rintro r w5 ⟨rfl, hb5⟩
            rw [BB.out]
            go_wp2
            go_ret
            exact ⟨ret_int (by rw [E.out]), then_ HT.out hb5 HT.out.size⟩
end Go.Proofs.Ytdhppajfdcfikaa.Up

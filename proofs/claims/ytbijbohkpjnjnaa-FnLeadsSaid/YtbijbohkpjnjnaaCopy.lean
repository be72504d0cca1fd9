/- What the copies of a window are, in the program and in the reference: new rows of the same nodes and leads. No condition but the sizes that are named. -/
import Derived.Test.YtbijbohkpjnjnaaCopyP
import Derived.Test.YtbijbohkpjnjnaaMarkw
namespace Go.Proofs.Ytbijbohkpjnjnaa
open Go.ChangeShapes Go.WideShapes Go.ChangeAt Go.RowKit
set_option maxHeartbeats 4000000
set_option maxRecDepth 100000
set_option linter.unusedSimpArgs false
set_option linter.unusedVariables false
theorem World.ownsRow.other {B n size g : Nat} {T U : TypeId} {w : World} {v : Value} {xs : List Value} {cs : Array Value} (h : w.ownsRow B T size v n xs) (hb : Blk w g U cs) (hT : U ≠ T) : ∀ g', v.ownBlock = some g' → g' ≠ g := by
  intro g' hg e
  subst e
  rcases h.2 with ⟨a, _⟩ | ⟨g2, _, cur, a, _, b, _⟩
  · rw [a] at hg; cases hg
  · rw [a] at hg
    have e' : g2 = g' := by simpa [Value.ownBlock] using hg
    subst e'
    unfold Blk at hb
    rw [hb] at b
    injection b with b
    injection b with _ b _
    exact hT b
theorem OwnR.set_far {B g : Nat} {T : TypeId} {w : World} {v : Value} {ns : List (Int × Int)} (h : OwnR B T w v ns) (hne : ∀ g', v.ownBlock = some g' → g' ≠ g) (i : Nat) (u : Value) : OwnR B T (w.setCell ⟨g, i, none⟩ u) v ns := by
  refine ⟨World.ownsRow.kept h.1 (grown_set w g i u) ?_, h.2⟩
  cases hb : v.ownBlock with
  | none => exact .inl rfl
  | some g' => exact .inr fun e => hne g' hb (Option.some.inj e)
theorem OwnR.beside_row {B B2 : Nat} {T T2 : TypeId} {w w' : World} {v v2 : Value} {ns ks : List (Int × Int)} (h : OwnR B T w v ns) (hg : w.grownBy w' v2.ownBlock) (h2 : OwnR B2 T2 w v2 ks) (hT : T2 ≠ T) : OwnR B T w' v ns := by
  refine ⟨World.ownsRow.kept h.1 hg ?_, h.2⟩
  cases hb : v.ownBlock with
  | none => exact .inl rfl
  | some g =>
    refine .inr fun e => ?_
    rcases h2.1.2 with ⟨a, _⟩ | ⟨g2, _, cur, a, _, b, _⟩
    · rw [a] at e; cases e
    · rw [a] at e
      have e' : g = g2 := by simpa [Value.ownBlock] using e
      subst e'
      exact World.ownsRow.other h.1 (show Blk w g T2 cur from b) hT g hb rfl
theorem sCopy_any (vn vl : Value) (ns ls : List (Int × Int)) (w : World) (hn : PairsAt w vn ns) (hl : PairsAt w vl ls) (h1 : ns.length ≤ 1900000) (h2 : ls.length ≤ 1900000) : Calls Try.prog 24 #[.agg #[vn, vl]] w (NewWinR ns ls w) := by
  obtain ⟨W0, hW0⟩ : ∃ W : World, W = (w.alloc (.cells #[vn, vl] 27)).alloc (.cells #[.slice none 0 0, .slice none 0 0] 27) := ⟨_, rfl⟩
  have s0 : Below w.heap.size w W0 := by rw [hW0]; exact ((Below.refl _ _).alloc (Nat.le_refl _) _).alloc (by simp) _
  have B0 : Hid (BoxV W0 w.heap.size vn vl) := hid (by rw [hW0]; exact (BoxV.new w vn vl _ _ rfl).alloc _)
  have R0 : Hid (Blk W0 (w.heap.size + 1) 27 #[.slice none 0 0, .slice none 0 0]) := hid (by
    rw [hW0]
    have := Blk.new (w.alloc (.cells #[vn, vl] 27)) 27 #[.slice none 0 0, .slice none 0 0]
    simpa using this)
  have Z0 : Hid (W0.heap.size = w.heap.size + 1 + 1) := hid (by rw [hW0]; simp)
  have S0 := hid s0
  clear s0
  obtain ⟨A, c, rfl, _, _, _⟩ := id hn
  obtain ⟨A', c', rfl, _, _, _⟩ := id hl
  obtain ⟨S, hS⟩ : ∃ S : World → Prop, S = fun W => Below (w.heap.size + 1) W0 W ∧ w.heap.size + 1 < W.heap.size ∧ ∃ u v, Blk W (w.heap.size + 1) 27 #[u, v] := ⟨_, rfl⟩
  have BW : Hid (∀ W, S W → Below w.heap.size w W) := hid (fun W h => by rw [hS] at h; exact S0.out.trans (h.1.mono (by omega)))
  have SZ : Hid (∀ W, S W → w.heap.size + 1 < W.heap.size) := hid (fun W h => by rw [hS] at h; exact h.2.1)
  have SR : Hid (∀ W, S W → ∃ u v, Blk W (w.heap.size + 1) 27 #[u, v]) := hid (fun W h => by rw [hS] at h; exact h.2.2)
  have CELLS : Hid (∀ W, S W → W.cell? ⟨w.heap.size, 0, none⟩ = some (.slice A ns.length c) ∧ W.cell? ⟨w.heap.size, 1, none⟩ = some (.slice A' ls.length c')) := hid (fun W h => by
    rw [hS] at h
    exact ⟨(h.1.cell (p := ⟨w.heap.size, 0, none⟩) (by show w.heap.size < w.heap.size + 1; omega)).trans B0.out.c0, (h.1.cell (p := ⟨w.heap.size, 1, none⟩) (by show w.heap.size < w.heap.size + 1; omega)).trans B0.out.c1⟩)
  have PN : Hid (∀ W, S W → PairsAt W (.slice A ns.length c) ns) := hid (fun W h => hn.below (BW.out W h))
  have PL : Hid (∀ W, S W → PairsAt W (.slice A' ls.length c') ls) := hid (fun W h => hl.below (BW.out W h))
  have UP : Hid (∀ W W', S W → Below W.heap.size W W' → S W') := hid (fun W W' h hb => by
    rw [hS] at h ⊢
    obtain ⟨a, b, u, v, k⟩ := h
    exact ⟨a.trans (hb.mono (by omega)), Nat.lt_of_lt_of_le b hb.size, u, v, k.below hb k.lt⟩)
  have ST : Hid (∀ W p1 p2, S W → S ((W.setCell ⟨w.heap.size + 1, 0, none⟩ p1).setCell ⟨w.heap.size + 1, 1, none⟩ p2) ∧ Blk ((W.setCell ⟨w.heap.size + 1, 0, none⟩ p1).setCell ⟨w.heap.size + 1, 1, none⟩ p2) (w.heap.size + 1) 27 #[p1, p2]) := hid (fun W p1 p2 h => by
    rw [hS] at h ⊢
    obtain ⟨a, b, u, v, k⟩ := h
    have k2 := (k.set_ 0 p1).set_ 1 p2
    exact ⟨⟨(a.setCell (p := ⟨w.heap.size + 1, 0, none⟩) (Nat.le_refl _) _).setCell (p := ⟨w.heap.size + 1, 1, none⟩) (Nat.le_refl _) _, by simpa [World.setCell] using b, _, _, k2⟩, k2⟩)
  have UPG : Hid (∀ W W' row, S W → W.grownBy W' row → some (w.heap.size + 1) ≠ row → row ≠ some w.heap.size → (∀ k, row = some k → w.heap.size + 1 ≤ k) → S W') := hid (fun W W' row h hg hr _ hk => by
    rw [hS] at h ⊢
    obtain ⟨a, b, u, v, k⟩ := h
    refine ⟨⟨hg.os.trans a.os, hg.tape.trans a.tape, hg.output.trans a.output, Nat.le_trans a.size hg.size, fun j hj => ?_⟩, Nat.lt_of_lt_of_le b hg.size, u, v, ?_⟩
    · rw [hg.block j (by have := a.size; have := Z0.out; omega) (fun e => by have := hk j e.symm; omega)]; exact a.block j hj
    · unfold Blk at k ⊢; rw [hg.block _ b hr]; exact k)
  have SD : S W0.drew := by
    rw [hS]
    exact ⟨(Below.refl _ _).drew, by show w.heap.size + 1 < W0.heap.size; have := Z0.out; omega, _, _, R0.out⟩
  have ht1 := Try.underlying24
  have ht2 := Try.underlying25
  clear hn hl hS
  go_enter Try.func24, Try.ntmps24
  go_wp2_with fail
  rw [← hW0]
  clear hW0
  refine wm_start (S := S) (by kernel_rfl) SD ?_
  refine wm_take (i := 1) (v := ?_) rfl (by kernel_rfl) (by kernel_rfl) (by kernel_rfl) (fun _ _ _ h => h) (by kernel_rfl) ?_ ?_
  rotate_left
  (focus (intro w hSw; obtain ⟨z0, z1⟩ := CELLS.out _ hSw; go_simp; try with_reducible rfl))
  simp only [Act.put, List.setIfInBounds_toArray, List.set_cons_zero, List.set_cons_succ, List.getElem_toArray, List.getElem_cons_succ, List.getElem_cons_zero, Nat.reduceAdd]
  refine wm_take (i := 2) (v := ?_) rfl (by kernel_rfl) (by kernel_rfl) (by kernel_rfl) (fun _ _ _ h => h) (by kernel_rfl) ?_ ?_
  rotate_left
  (focus (intro w hSw; obtain ⟨z0, z1⟩ := CELLS.out _ hSw; go_simp; try with_reducible rfl))
  simp only [Act.put, List.setIfInBounds_toArray, List.set_cons_zero, List.set_cons_succ, List.getElem_toArray, List.getElem_cons_succ, List.getElem_cons_zero, Nat.reduceAdd]
  refine wm_take (i := 5) (v := ?_) rfl (by kernel_rfl) (by kernel_rfl) (by kernel_rfl) (fun _ _ _ h => h) (by kernel_rfl) ?_ ?_
  rotate_left
  (focus (intro w hSw; obtain ⟨z0, z1⟩ := CELLS.out _ hSw; go_simp; try with_reducible rfl))
  simp only [Act.put, List.setIfInBounds_toArray, List.set_cons_zero, List.set_cons_succ, List.getElem_toArray, List.getElem_cons_succ, List.getElem_cons_zero, Nat.reduceAdd]
  refine wm_take (i := 6) (v := ?_) rfl (by kernel_rfl) (by kernel_rfl) (by kernel_rfl) (fun _ _ _ h => h) (by kernel_rfl) ?_ ?_
  rotate_left
  (focus (intro w hSw; obtain ⟨z0, z1⟩ := CELLS.out _ hSw; go_simp; try with_reducible rfl))
  simp only [Act.put, List.setIfInBounds_toArray, List.set_cons_zero, List.set_cons_succ, List.getElem_toArray, List.getElem_cons_succ, List.getElem_cons_zero, Nat.reduceAdd]
  refine wm_each (l := [0, 4]) (by kernel_rfl) (by simp) ?_
  intro v0 hv0 hS0
  refine Each.cons rfl (fun K hK => ?_) (Each.cons rfl (fun K hK => ?_) Each.nil)
  · skip
    have g0 := SZ.out _ hS0
    have hS := UP.out _ _ hS0 ((Below.refl _ _).alloc (Nat.le_refl _) (.cells #[] 38))
    have nL := OwnR.lit w.heap.size 38 v0 (by omega)
    go_simp
    refine hK.out _ _ ⟨hS, ?_⟩
    have nG : w.heap.size + 1 ≠ v0.heap.size := by omega
    have nG2 : w.heap.size + 1 < v0.heap.size := by omega
    clear g0
    generalize hga : v0.heap.size = na at nL nG nG2 ⊢
    clear hga
    clear hK K
    (try simp only [Act.put, List.setIfInBounds_toArray, List.set_cons_zero, List.set_cons_succ, List.getElem_toArray, List.getElem_cons_succ, List.getElem_cons_zero, Nat.reduceAdd])
    refine wm_each (l := [3, 4]) (by kernel_rfl) (by simp) ?_
    intro v1 hv1 hS1
    replace nL := nL.below hv1
    refine Each.cons rfl (fun K hK => ?_) (Each.cons rfl (fun K hK => ?_) Each.nil)
    · skip
      rw [if_pos (by kernel_rfl)]
      refine wp_append_pairs _ _ 24 38 rfl ht1 infoNode w.heap.size (.slice (some ⟨na, 0, none⟩) 0 0) [] rfl nL _ ns rfl (PN.out _ hS1) (by simp; omega) (by have := SZ.out _ hS1; omega) ?_
      intro p w1 ho hg
      have hS := UPG.out _ _ _ hS1 hg (fun e => nG (by simpa [Value.ownBlock] using e)) (fun e => by have := nG2; have e2 : na = w.heap.size := (by simpa [Value.ownBlock] using e); omega) (fun j e => by have := nG2; have e2 : na = j := (by simpa [Value.ownBlock] using e); omega)
      rw [List.nil_append] at ho
      obtain ⟨nA, nc, rfl⟩ := ho.form
      have nO := ho
      clear ho hg
      (try dsimp only)
      refine hK.out _ _ ⟨hS, ?_⟩
      clear hK K
      (try simp only [Act.put, List.setIfInBounds_toArray, List.set_cons_zero, List.set_cons_succ, List.getElem_toArray, List.getElem_cons_succ, List.getElem_cons_zero, Nat.reduceAdd])
      refine wm_each (l := [4]) (by kernel_rfl) (by simp) ?_
      intro v2 hv2 hS2
      replace nO := nO.below hv2
      refine Each.cons rfl (fun K hK => ?_) Each.nil
      · skip
        have g0 := SZ.out _ hS2
        have hS := UP.out _ _ hS2 ((Below.refl _ _).alloc (Nat.le_refl _) (.cells #[] 30))
        have lL := OwnR.lit w.heap.size 30 v2 (by omega)
        replace nO := nO.below ((Below.refl _ _).alloc (Nat.le_refl _) (.cells #[] 30))
        go_simp
        refine hK.out _ _ ⟨hS, ?_⟩
        have lG : w.heap.size + 1 ≠ v2.heap.size := by omega
        have lG2 : w.heap.size + 1 < v2.heap.size := by omega
        clear g0
        generalize hga : v2.heap.size = la at lL lG lG2 ⊢
        clear hga
        clear hK K
        (try simp only [Act.put, List.setIfInBounds_toArray, List.set_cons_zero, List.set_cons_succ, List.getElem_toArray, List.getElem_cons_succ, List.getElem_cons_zero, Nat.reduceAdd])
        refine wm_each (l := [7]) (by kernel_rfl) (by simp) ?_
        intro v3 hv3 hS3
        replace nO := nO.below hv3
        replace lL := lL.below hv3
        refine Each.cons rfl (fun K hK => ?_) Each.nil
        · skip
          rw [if_pos (by kernel_rfl)]
          refine wp_append_pairs _ _ 25 30 rfl ht2 infoLead w.heap.size (.slice (some ⟨la, 0, none⟩) 0 0) [] rfl lL _ ls rfl (PL.out _ hS3) (by simp; omega) (by have := SZ.out _ hS3; omega) ?_
          intro p w1 ho hg
          have hS := UPG.out _ _ _ hS3 hg (fun e => lG (by simpa [Value.ownBlock] using e)) (fun e => by have := lG2; have e2 : la = w.heap.size := (by simpa [Value.ownBlock] using e); omega) (fun j e => by have := lG2; have e2 : la = j := (by simpa [Value.ownBlock] using e); omega)
          replace nO := nO.beside_row hg lL (by decide)
          rw [List.nil_append] at ho
          obtain ⟨lA, lc, rfl⟩ := ho.form
          have lO := ho
          clear ho hg
          (try dsimp only)
          refine hK.out _ _ ⟨hS, ?_⟩
          clear hK K
          (try simp only [Act.put, List.setIfInBounds_toArray, List.set_cons_zero, List.set_cons_succ, List.getElem_toArray, List.getElem_cons_succ, List.getElem_cons_zero, Nat.reduceAdd])
          refine wm_take (i := 8) (v := ?_) rfl (by kernel_rfl) (by kernel_rfl) (by kernel_rfl) (fun _ _ _ h => h) (by kernel_rfl) ?_ ?_
          rotate_left
          (focus (intro w hSw; skip; go_simp; try with_reducible rfl))
          simp only [Act.put, List.setIfInBounds_toArray, List.set_cons_zero, List.set_cons_succ, List.getElem_toArray, List.getElem_cons_succ, List.getElem_cons_zero, Nat.reduceAdd]
          refine wm_each (l := [9]) (by kernel_rfl) (by simp) ?_
          intro v4 hv4 hS4
          replace nO := nO.below hv4
          replace lO := lO.below hv4
          refine Each.cons rfl (fun K hK => ?_) Each.nil
          obtain ⟨u0, u1, hR⟩ := SR.out _ hS4
          have r0 : v4.cell? ⟨w.heap.size + 1, 0, none⟩ = some u0 := by rw [hR.cell]; rfl
          have r1 : v4.cell? ⟨w.heap.size + 1, 1, none⟩ = some u1 := by rw [hR.cell]; rfl
          have f0 : v4.frozen? ⟨w.heap.size + 1, 0, none⟩ = false := hR.frozen 0
          have f1 : v4.frozen? ⟨w.heap.size + 1, 1, none⟩ = false := hR.frozen 1
          go_simp
          obtain ⟨hS, hR2⟩ := ST.out v4 (.slice nA ns.length nc) (.slice lA ls.length lc) hS4
          have ne1 : ∀ g, (Value.slice nA ns.length nc).ownBlock = some g → g ≠ w.heap.size + 1 := fun g hg e => by
            have := World.ownsRow.other nO.1 hR (by decide) g hg; exact this e
          have ne2 : ∀ g, (Value.slice lA ls.length lc).ownBlock = some g → g ≠ w.heap.size + 1 := fun g hg e => by
            have := World.ownsRow.other lO.1 hR (by decide) g hg; exact this e
          replace nO := (nO.set_far ne1 0 (.slice nA ns.length nc)).set_far ne1 1 (.slice lA ls.length lc)
          replace lO := (lO.set_far ne2 0 (.slice nA ns.length nc)).set_far ne2 1 (.slice lA ls.length lc)
          refine hK.out _ _ ⟨hS, ?_⟩
          clear hK K r0 r1 f0 f1 hR
          generalize (World.setCell _ _ _).setCell _ _ = V0 at hS hR2 nO lO ⊢
          refine wm_done (by kernel_rfl) ?_
          intro V hV hSV
          replace nO := nO.below hV
          replace lO := lO.below hV
          have hR3 := hR2.below hV hR2.lt
          have r0 : V.cell? ⟨w.heap.size + 1, 0, none⟩ = some (.slice nA ns.length nc) := by rw [hR3.cell]; rfl
          have r1 : V.cell? ⟨w.heap.size + 1, 1, none⟩ = some (.slice lA ls.length lc) := by rw [hR3.cell]; rfl
          have rf0 : V.frozen? ⟨w.heap.size + 1, 0, none⟩ = false := hR3.frozen 0
          have rf1 : V.frozen? ⟨w.heap.size + 1, 1, none⟩ = false := hR3.frozen 1
          go_wp2
          exact bodyPost_ret (v := .agg #[.slice nA ns.length nc, .slice lA ls.length lc]) (by simp [results, Try.results24, go_sem, r0, r1]) rfl ⟨_, _, rfl, nO, lO, BW.out _ hSV⟩
    · skip
      have g0 := SZ.out _ hS1
      have hS := UP.out _ _ hS1 ((Below.refl _ _).alloc (Nat.le_refl _) (.cells #[] 30))
      have lL := OwnR.lit w.heap.size 30 v1 (by omega)
      replace nL := nL.below ((Below.refl _ _).alloc (Nat.le_refl _) (.cells #[] 30))
      go_simp
      refine hK.out _ _ ⟨hS, ?_⟩
      have lG : w.heap.size + 1 ≠ v1.heap.size := by omega
      have lG2 : w.heap.size + 1 < v1.heap.size := by omega
      clear g0
      generalize hga : v1.heap.size = la at lL lG lG2 ⊢
      clear hga
      clear hK K
      (try simp only [Act.put, List.setIfInBounds_toArray, List.set_cons_zero, List.set_cons_succ, List.getElem_toArray, List.getElem_cons_succ, List.getElem_cons_zero, Nat.reduceAdd])
      refine wm_each (l := [3]) (by kernel_rfl) (by simp) ?_
      intro v2 hv2 hS2
      replace nL := nL.below hv2
      replace lL := lL.below hv2
      refine Each.cons rfl (fun K hK => ?_) Each.nil
      · skip
        rw [if_pos (by kernel_rfl)]
        refine wp_append_pairs _ _ 24 38 rfl ht1 infoNode w.heap.size (.slice (some ⟨na, 0, none⟩) 0 0) [] rfl nL _ ns rfl (PN.out _ hS2) (by simp; omega) (by have := SZ.out _ hS2; omega) ?_
        intro p w1 ho hg
        have hS := UPG.out _ _ _ hS2 hg (fun e => nG (by simpa [Value.ownBlock] using e)) (fun e => by have := nG2; have e2 : na = w.heap.size := (by simpa [Value.ownBlock] using e); omega) (fun j e => by have := nG2; have e2 : na = j := (by simpa [Value.ownBlock] using e); omega)
        replace lL := lL.beside_row hg nL (by decide)
        rw [List.nil_append] at ho
        obtain ⟨nA, nc, rfl⟩ := ho.form
        have nO := ho
        clear ho hg
        (try dsimp only)
        refine hK.out _ _ ⟨hS, ?_⟩
        clear hK K
        (try simp only [Act.put, List.setIfInBounds_toArray, List.set_cons_zero, List.set_cons_succ, List.getElem_toArray, List.getElem_cons_succ, List.getElem_cons_zero, Nat.reduceAdd])
        refine wm_each (l := [7]) (by kernel_rfl) (by simp) ?_
        intro v3 hv3 hS3
        replace nO := nO.below hv3
        replace lL := lL.below hv3
        refine Each.cons rfl (fun K hK => ?_) Each.nil
        · skip
          rw [if_pos (by kernel_rfl)]
          refine wp_append_pairs _ _ 25 30 rfl ht2 infoLead w.heap.size (.slice (some ⟨la, 0, none⟩) 0 0) [] rfl lL _ ls rfl (PL.out _ hS3) (by simp; omega) (by have := SZ.out _ hS3; omega) ?_
          intro p w1 ho hg
          have hS := UPG.out _ _ _ hS3 hg (fun e => lG (by simpa [Value.ownBlock] using e)) (fun e => by have := lG2; have e2 : la = w.heap.size := (by simpa [Value.ownBlock] using e); omega) (fun j e => by have := lG2; have e2 : la = j := (by simpa [Value.ownBlock] using e); omega)
          replace nO := nO.beside_row hg lL (by decide)
          rw [List.nil_append] at ho
          obtain ⟨lA, lc, rfl⟩ := ho.form
          have lO := ho
          clear ho hg
          (try dsimp only)
          refine hK.out _ _ ⟨hS, ?_⟩
          clear hK K
          (try simp only [Act.put, List.setIfInBounds_toArray, List.set_cons_zero, List.set_cons_succ, List.getElem_toArray, List.getElem_cons_succ, List.getElem_cons_zero, Nat.reduceAdd])
          refine wm_take (i := 8) (v := ?_) rfl (by kernel_rfl) (by kernel_rfl) (by kernel_rfl) (fun _ _ _ h => h) (by kernel_rfl) ?_ ?_
          rotate_left
          (focus (intro w hSw; skip; go_simp; try with_reducible rfl))
          simp only [Act.put, List.setIfInBounds_toArray, List.set_cons_zero, List.set_cons_succ, List.getElem_toArray, List.getElem_cons_succ, List.getElem_cons_zero, Nat.reduceAdd]
          refine wm_each (l := [9]) (by kernel_rfl) (by simp) ?_
          intro v4 hv4 hS4
          replace nO := nO.below hv4
          replace lO := lO.below hv4
          refine Each.cons rfl (fun K hK => ?_) Each.nil
          obtain ⟨u0, u1, hR⟩ := SR.out _ hS4
          have r0 : v4.cell? ⟨w.heap.size + 1, 0, none⟩ = some u0 := by rw [hR.cell]; rfl
          have r1 : v4.cell? ⟨w.heap.size + 1, 1, none⟩ = some u1 := by rw [hR.cell]; rfl
          have f0 : v4.frozen? ⟨w.heap.size + 1, 0, none⟩ = false := hR.frozen 0
          have f1 : v4.frozen? ⟨w.heap.size + 1, 1, none⟩ = false := hR.frozen 1
          go_simp
          obtain ⟨hS, hR2⟩ := ST.out v4 (.slice nA ns.length nc) (.slice lA ls.length lc) hS4
          have ne1 : ∀ g, (Value.slice nA ns.length nc).ownBlock = some g → g ≠ w.heap.size + 1 := fun g hg e => by
            have := World.ownsRow.other nO.1 hR (by decide) g hg; exact this e
          have ne2 : ∀ g, (Value.slice lA ls.length lc).ownBlock = some g → g ≠ w.heap.size + 1 := fun g hg e => by
            have := World.ownsRow.other lO.1 hR (by decide) g hg; exact this e
          replace nO := (nO.set_far ne1 0 (.slice nA ns.length nc)).set_far ne1 1 (.slice lA ls.length lc)
          replace lO := (lO.set_far ne2 0 (.slice nA ns.length nc)).set_far ne2 1 (.slice lA ls.length lc)
          refine hK.out _ _ ⟨hS, ?_⟩
          clear hK K r0 r1 f0 f1 hR
          generalize (World.setCell _ _ _).setCell _ _ = V0 at hS hR2 nO lO ⊢
          refine wm_done (by kernel_rfl) ?_
          intro V hV hSV
          replace nO := nO.below hV
          replace lO := lO.below hV
          have hR3 := hR2.below hV hR2.lt
          have r0 : V.cell? ⟨w.heap.size + 1, 0, none⟩ = some (.slice nA ns.length nc) := by rw [hR3.cell]; rfl
          have r1 : V.cell? ⟨w.heap.size + 1, 1, none⟩ = some (.slice lA ls.length lc) := by rw [hR3.cell]; rfl
          have rf0 : V.frozen? ⟨w.heap.size + 1, 0, none⟩ = false := hR3.frozen 0
          have rf1 : V.frozen? ⟨w.heap.size + 1, 1, none⟩ = false := hR3.frozen 1
          go_wp2
          exact bodyPost_ret (v := .agg #[.slice nA ns.length nc, .slice lA ls.length lc]) (by simp [results, Try.results24, go_sem, r0, r1]) rfl ⟨_, _, rfl, nO, lO, BW.out _ hSV⟩
  · skip
    have g0 := SZ.out _ hS0
    have hS := UP.out _ _ hS0 ((Below.refl _ _).alloc (Nat.le_refl _) (.cells #[] 30))
    have lL := OwnR.lit w.heap.size 30 v0 (by omega)
    go_simp
    refine hK.out _ _ ⟨hS, ?_⟩
    have lG : w.heap.size + 1 ≠ v0.heap.size := by omega
    have lG2 : w.heap.size + 1 < v0.heap.size := by omega
    clear g0
    generalize hga : v0.heap.size = la at lL lG lG2 ⊢
    clear hga
    clear hK K
    (try simp only [Act.put, List.setIfInBounds_toArray, List.set_cons_zero, List.set_cons_succ, List.getElem_toArray, List.getElem_cons_succ, List.getElem_cons_zero, Nat.reduceAdd])
    refine wm_each (l := [0]) (by kernel_rfl) (by simp) ?_
    intro v1 hv1 hS1
    replace lL := lL.below hv1
    refine Each.cons rfl (fun K hK => ?_) Each.nil
    · skip
      have g0 := SZ.out _ hS1
      have hS := UP.out _ _ hS1 ((Below.refl _ _).alloc (Nat.le_refl _) (.cells #[] 38))
      have nL := OwnR.lit w.heap.size 38 v1 (by omega)
      replace lL := lL.below ((Below.refl _ _).alloc (Nat.le_refl _) (.cells #[] 38))
      go_simp
      refine hK.out _ _ ⟨hS, ?_⟩
      have nG : w.heap.size + 1 ≠ v1.heap.size := by omega
      have nG2 : w.heap.size + 1 < v1.heap.size := by omega
      clear g0
      generalize hga : v1.heap.size = na at nL nG nG2 ⊢
      clear hga
      clear hK K
      (try simp only [Act.put, List.setIfInBounds_toArray, List.set_cons_zero, List.set_cons_succ, List.getElem_toArray, List.getElem_cons_succ, List.getElem_cons_zero, Nat.reduceAdd])
      refine wm_each (l := [3]) (by kernel_rfl) (by simp) ?_
      intro v2 hv2 hS2
      replace nL := nL.below hv2
      replace lL := lL.below hv2
      refine Each.cons rfl (fun K hK => ?_) Each.nil
      · skip
        rw [if_pos (by kernel_rfl)]
        refine wp_append_pairs _ _ 24 38 rfl ht1 infoNode w.heap.size (.slice (some ⟨na, 0, none⟩) 0 0) [] rfl nL _ ns rfl (PN.out _ hS2) (by simp; omega) (by have := SZ.out _ hS2; omega) ?_
        intro p w1 ho hg
        have hS := UPG.out _ _ _ hS2 hg (fun e => nG (by simpa [Value.ownBlock] using e)) (fun e => by have := nG2; have e2 : na = w.heap.size := (by simpa [Value.ownBlock] using e); omega) (fun j e => by have := nG2; have e2 : na = j := (by simpa [Value.ownBlock] using e); omega)
        replace lL := lL.beside_row hg nL (by decide)
        rw [List.nil_append] at ho
        obtain ⟨nA, nc, rfl⟩ := ho.form
        have nO := ho
        clear ho hg
        (try dsimp only)
        refine hK.out _ _ ⟨hS, ?_⟩
        clear hK K
        (try simp only [Act.put, List.setIfInBounds_toArray, List.set_cons_zero, List.set_cons_succ, List.getElem_toArray, List.getElem_cons_succ, List.getElem_cons_zero, Nat.reduceAdd])
        refine wm_each (l := [7]) (by kernel_rfl) (by simp) ?_
        intro v3 hv3 hS3
        replace nO := nO.below hv3
        replace lL := lL.below hv3
        refine Each.cons rfl (fun K hK => ?_) Each.nil
        · skip
          rw [if_pos (by kernel_rfl)]
          refine wp_append_pairs _ _ 25 30 rfl ht2 infoLead w.heap.size (.slice (some ⟨la, 0, none⟩) 0 0) [] rfl lL _ ls rfl (PL.out _ hS3) (by simp; omega) (by have := SZ.out _ hS3; omega) ?_
          intro p w1 ho hg
          have hS := UPG.out _ _ _ hS3 hg (fun e => lG (by simpa [Value.ownBlock] using e)) (fun e => by have := lG2; have e2 : la = w.heap.size := (by simpa [Value.ownBlock] using e); omega) (fun j e => by have := lG2; have e2 : la = j := (by simpa [Value.ownBlock] using e); omega)
          replace nO := nO.beside_row hg lL (by decide)
          rw [List.nil_append] at ho
          obtain ⟨lA, lc, rfl⟩ := ho.form
          have lO := ho
          clear ho hg
          (try dsimp only)
          refine hK.out _ _ ⟨hS, ?_⟩
          clear hK K
          (try simp only [Act.put, List.setIfInBounds_toArray, List.set_cons_zero, List.set_cons_succ, List.getElem_toArray, List.getElem_cons_succ, List.getElem_cons_zero, Nat.reduceAdd])
          refine wm_take (i := 8) (v := ?_) rfl (by kernel_rfl) (by kernel_rfl) (by kernel_rfl) (fun _ _ _ h => h) (by kernel_rfl) ?_ ?_
          rotate_left
          (focus (intro w hSw; skip; go_simp; try with_reducible rfl))
          simp only [Act.put, List.setIfInBounds_toArray, List.set_cons_zero, List.set_cons_succ, List.getElem_toArray, List.getElem_cons_succ, List.getElem_cons_zero, Nat.reduceAdd]
          refine wm_each (l := [9]) (by kernel_rfl) (by simp) ?_
          intro v4 hv4 hS4
          replace nO := nO.below hv4
          replace lO := lO.below hv4
          refine Each.cons rfl (fun K hK => ?_) Each.nil
          obtain ⟨u0, u1, hR⟩ := SR.out _ hS4
          have r0 : v4.cell? ⟨w.heap.size + 1, 0, none⟩ = some u0 := by rw [hR.cell]; rfl
          have r1 : v4.cell? ⟨w.heap.size + 1, 1, none⟩ = some u1 := by rw [hR.cell]; rfl
          have f0 : v4.frozen? ⟨w.heap.size + 1, 0, none⟩ = false := hR.frozen 0
          have f1 : v4.frozen? ⟨w.heap.size + 1, 1, none⟩ = false := hR.frozen 1
          go_simp
          obtain ⟨hS, hR2⟩ := ST.out v4 (.slice nA ns.length nc) (.slice lA ls.length lc) hS4
          have ne1 : ∀ g, (Value.slice nA ns.length nc).ownBlock = some g → g ≠ w.heap.size + 1 := fun g hg e => by
            have := World.ownsRow.other nO.1 hR (by decide) g hg; exact this e
          have ne2 : ∀ g, (Value.slice lA ls.length lc).ownBlock = some g → g ≠ w.heap.size + 1 := fun g hg e => by
            have := World.ownsRow.other lO.1 hR (by decide) g hg; exact this e
          replace nO := (nO.set_far ne1 0 (.slice nA ns.length nc)).set_far ne1 1 (.slice lA ls.length lc)
          replace lO := (lO.set_far ne2 0 (.slice nA ns.length nc)).set_far ne2 1 (.slice lA ls.length lc)
          refine hK.out _ _ ⟨hS, ?_⟩
          clear hK K r0 r1 f0 f1 hR
          generalize (World.setCell _ _ _).setCell _ _ = V0 at hS hR2 nO lO ⊢
          refine wm_done (by kernel_rfl) ?_
          intro V hV hSV
          replace nO := nO.below hV
          replace lO := lO.below hV
          have hR3 := hR2.below hV hR2.lt
          have r0 : V.cell? ⟨w.heap.size + 1, 0, none⟩ = some (.slice nA ns.length nc) := by rw [hR3.cell]; rfl
          have r1 : V.cell? ⟨w.heap.size + 1, 1, none⟩ = some (.slice lA ls.length lc) := by rw [hR3.cell]; rfl
          have rf0 : V.frozen? ⟨w.heap.size + 1, 0, none⟩ = false := hR3.frozen 0
          have rf1 : V.frozen? ⟨w.heap.size + 1, 1, none⟩ = false := hR3.frozen 1
          go_wp2
          exact bodyPost_ret (v := .agg #[.slice nA ns.length nc, .slice lA ls.length lc]) (by simp [results, Try.results24, go_sem, r0, r1]) rfl ⟨_, _, rfl, nO, lO, BW.out _ hSV⟩
end Go.Proofs.Ytbijbohkpjnjnaa

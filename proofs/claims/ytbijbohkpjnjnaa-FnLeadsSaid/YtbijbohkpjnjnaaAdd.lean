/- What AddLead returns, in the program and in the reference: a new window, and whether the lead is in it. No condition but the sizes that are named. -/
import Derived.Test.YtbijbohkpjnjnaaCopy
import Derived.Test.YtbijbohkpjnjnaaWinS
namespace Go.Proofs.Ytbijbohkpjnjnaa
open Go.ChangeShapes Go.WideShapes Go.ChangeAt Go.RowKit
set_option maxHeartbeats 4000000
set_option maxRecDepth 100000
set_option linter.unusedSimpArgs false
set_option linter.unusedVariables false
def alF (ns ls : List (Int × Int)) (a b : Int) : Bool := winOkB ns ls && winOkB ns (ls ++ [(min a b, max a b)])
def alL (ns ls : List (Int × Int)) (a b : Int) : List (Int × Int) := if alF ns ls a b = true then ls ++ [(min a b, max a b)] else ls
def PairWinR (ns ls : List (Int × Int)) (ok : Bool) (w : World) (e : Ending) (w' : World) : Prop := ∃ p1 p2, e = .returned (.tuple #[.agg #[p1, p2], .bool ok]) ∧ OwnR w.heap.size 38 w' p1 ns ∧ OwnR w.heap.size 30 w' p2 ls ∧ Below w.heap.size w w'
theorem OwnR.lt {B : Nat} {T : TypeId} {w : World} {v : Value} {ns : List (Int × Int)} (h : OwnR B T w v ns) : ∀ k, v.ownBlock = some k → B ≤ k ∧ k < w.heap.size := World.ownsRow.lt h.1
theorem OwnR.set_low {B g : Nat} {T : TypeId} {w : World} {v : Value} {ns : List (Int × Int)} (h : OwnR B T w v ns) (hg : g < B) (i : Nat) (u : Value) : OwnR B T (w.setCell ⟨g, i, none⟩ u) v ns :=
  h.set_far (fun g' e => by have := (h.lt g' e).1; omega) i u
theorem OwnR.set_high {B g : Nat} {T : TypeId} {w w0 : World} {v : Value} {ns : List (Int × Int)} (h : OwnR B T w v ns) (h0 : OwnR B T w0 v ns) (hg : w0.heap.size ≤ g) (i : Nat) (u : Value) : OwnR B T (w.setCell ⟨g, i, none⟩ u) v ns :=
  h.set_far (fun g' e => by have := (h0.lt g' e).2; omega) i u
theorem Blk.grown {g : Nat} {T : TypeId} {cs : Array Value} {w w' : World} {row : Option Nat} (h : Blk w g T cs) (hg : w.grownBy w' row) (hr : some g ≠ row) : Blk w' g T cs := by
  have hlt := h.lt
  unfold Blk at h ⊢; rw [hg.block g hlt hr]; exact h
theorem sAdd_any (vn vl : Value) (ns ls : List (Int × Int)) (a b : Int) (w : World) (hn : PairsAt w vn ns) (hl : PairsAt w vl ls) (h1 : ns.length ≤ 1100000) (h2 : ls.length ≤ 1100000) : Calls Try.prog 23 #[.agg #[vn, vl], .int .i64 a, .int .i64 b] w (PairWinR ns (alL ns ls a b) (alF ns ls a b) w) := by
  obtain ⟨W0, hW0⟩ : ∃ W : World, W = (w.alloc (.cells #[vn, vl] 27)).alloc (.cells #[.slice none 0 0, .slice none 0 0] 27) := ⟨_, rfl⟩
  have s0 : Below w.heap.size w W0 := by rw [hW0]; exact ((Below.refl _ _).alloc (Nat.le_refl _) _).alloc (by simp) _
  have B0 : Hid (BoxV W0 w.heap.size vn vl) := hid (by rw [hW0]; exact (BoxV.new w vn vl _ _ rfl).alloc _)
  have R0 : Hid (Blk W0 (w.heap.size + 1) 27 #[.slice none 0 0, .slice none 0 0]) := hid (by
    rw [hW0]
    have := Blk.new (w.alloc (.cells #[vn, vl] 27)) 27 #[.slice none 0 0, .slice none 0 0]
    simpa using this)
  have Z0 : Hid (W0.heap.size = w.heap.size + 1 + 1) := hid (by rw [hW0]; simp)
  have S0 := hid s0
  clear s0
  obtain ⟨A, c, rfl, _, _, _⟩ := id hn
  obtain ⟨A', c', rfl, _, _, _⟩ := id hl
  obtain ⟨S, hS⟩ : ∃ S : World → Prop, S = fun W => Below (w.heap.size + 1) W0 W ∧ w.heap.size + 1 < W.heap.size ∧ ∃ u v, Blk W (w.heap.size + 1) 27 #[u, v] := ⟨_, rfl⟩
  have BW : Hid (∀ W, S W → Below w.heap.size w W) := hid (fun W h => by rw [hS] at h; exact S0.out.trans (h.1.mono (by omega)))
  have SZ : Hid (∀ W, S W → w.heap.size + 1 < W.heap.size) := hid (fun W h => by rw [hS] at h; exact h.2.1)
  have SR : Hid (∀ W, S W → ∃ u v, Blk W (w.heap.size + 1) 27 #[u, v]) := hid (fun W h => by rw [hS] at h; exact h.2.2)
  have CELLS : Hid (∀ W, S W → W.cell? ⟨w.heap.size, 0, none⟩ = some (.slice A ns.length c) ∧ W.cell? ⟨w.heap.size, 1, none⟩ = some (.slice A' ls.length c')) := hid (fun W h => by
    rw [hS] at h
    exact ⟨(h.1.cell (p := ⟨w.heap.size, 0, none⟩) (by show w.heap.size < w.heap.size + 1; omega)).trans B0.out.c0, (h.1.cell (p := ⟨w.heap.size, 1, none⟩) (by show w.heap.size < w.heap.size + 1; omega)).trans B0.out.c1⟩)
  have PN : Hid (∀ W, S W → PairsAt W (.slice A ns.length c) ns) := hid (fun W h => hn.below (BW.out W h))
  have PL : Hid (∀ W, S W → PairsAt W (.slice A' ls.length c') ls) := hid (fun W h => hl.below (BW.out W h))
  have UP : Hid (∀ W W', S W → Below W.heap.size W W' → S W') := hid (fun W W' h hb => by
    rw [hS] at h ⊢
    obtain ⟨a, b, u, v, k⟩ := h
    exact ⟨a.trans (hb.mono (by omega)), Nat.lt_of_lt_of_le b hb.size, u, v, k.below hb k.lt⟩)
  have ST : Hid (∀ W p1 p2, S W → S ((W.setCell ⟨w.heap.size + 1, 0, none⟩ p1).setCell ⟨w.heap.size + 1, 1, none⟩ p2) ∧ Blk ((W.setCell ⟨w.heap.size + 1, 0, none⟩ p1).setCell ⟨w.heap.size + 1, 1, none⟩ p2) (w.heap.size + 1) 27 #[p1, p2]) := hid (fun W p1 p2 h => by
    rw [hS] at h ⊢
    obtain ⟨a, b, u, v, k⟩ := h
    have k2 := (k.set_ 0 p1).set_ 1 p2
    exact ⟨⟨(a.setCell (p := ⟨w.heap.size + 1, 0, none⟩) (Nat.le_refl _) _).setCell (p := ⟨w.heap.size + 1, 1, none⟩) (Nat.le_refl _) _, by simpa [World.setCell] using b, _, _, k2⟩, k2⟩)
  have UPG : Hid (∀ W W' row, S W → W.grownBy W' row → (∀ k, row = some k → w.heap.size + 1 + 1 ≤ k) → S W') := hid (fun W W' row h hg hk => by
    rw [hS] at h ⊢
    obtain ⟨a, b, u, v, k⟩ := h
    refine ⟨⟨hg.os.trans a.os, hg.tape.trans a.tape, hg.output.trans a.output, Nat.le_trans a.size hg.size, fun j hj => ?_⟩, Nat.lt_of_lt_of_le b hg.size, u, v, ?_⟩
    · rw [hg.block j (by have := a.size; have := Z0.out; omega) (fun e => by have := hk j e.symm; omega)]; exact a.block j hj
    · unfold Blk at k ⊢; rw [hg.block _ b (fun e => by have := hk _ e.symm; omega)]; exact k)
  have S1 : S W0 := by
    rw [hS]
    exact ⟨Below.refl _ _, by show w.heap.size + 1 < W0.heap.size; have := Z0.out; omega, _, _, R0.out⟩
  have ht1 := Try.underlying24
  have ht2 := Try.underlying25
  clear hn hl hS
  obtain ⟨ma, hma⟩ : ∃ m, m = min a b := ⟨_, rfl⟩
  obtain ⟨mb, hmb⟩ : ∃ m, m = max a b := ⟨_, rfl⟩
  have MA := hid hma
  have MB := hid hmb
  obtain ⟨l9, hl9⟩ : ∃ l, l = ls ++ [(ma, mb)] := ⟨_, rfl⟩
  have EF2 : Hid (∀ ok2, winOkB ns ls = true → winOkB ns l9 = ok2 → alF ns ls a b = ok2 ∧ alL ns ls a b = if ok2 = true then l9 else ls) := hid (fun ok2 q1 q2 => by
    rw [hl9] at q2 ⊢
    have e : alF ns ls a b = ok2 := by unfold alF; rw [← hma, ← hmb, q1, q2]; rfl
    exact ⟨e, by unfold alL; rw [e, ← hma, ← hmb]⟩)
  have EF0 : Hid (winOkB ns ls = false → alF ns ls a b = false ∧ alL ns ls a b = ls) := hid (fun q1 => by
    have e : alF ns ls a b = false := by unfold alF; rw [q1]; rfl
    exact ⟨e, by unfold alL; rw [e]; rfl⟩)
  have L9 := hid hl9
  clear hma hmb hl9
  have Z1 := Z0.out
  obtain ⟨z0, z1⟩ := CELLS.out _ S1
  rcases Int.lt_trichotomy a b with hx | rfl | hx
  · have m1 := MA.out
    have m2 := MB.out
    rw [Int.min_eq_left (Int.le_of_lt hx)] at m1; rw [Int.max_eq_right (Int.le_of_lt hx)] at m2
    subst m1
    subst m2
    go_enter Try.func23, Try.ntmps23
    go_wp2_with fail
    rw [← hW0]
    clear hW0
    refine (sCopy_any _ _ ns ls _ (PN.out _ S1) (PL.out _ S1) (by omega) (by omega)).mono ?_
    rintro e w4 ⟨q1, q2, rfl, k1, k2, hb⟩
    have hS4 := UP.out _ _ S1 hb
    obtain ⟨A3, c3, rfl⟩ := k1.form
    obtain ⟨A4, c4, rfl⟩ := k2.form
    have hz4 := hb.size
    clear hb z0 z1
    have a1 : Below w4.heap.size w4 (w4.alloc (.cells #[.slice A3 ns.length c3, .slice A4 ls.length c4] 27)) := (Below.refl _ _).alloc (Nat.le_refl _) _
    have hS5 := UP.out _ _ hS4 a1
    replace k1 := k1.below a1
    have lt2 := k2.lt
    replace k2 := k2.below a1
    have x9 := Blk.new w4 27 #[.slice A3 ns.length c3, .slice A4 ls.length c4]
    have y90 : (w4.alloc (.cells #[.slice A3 ns.length c3, .slice A4 ls.length c4] 27)).cell? ⟨w4.heap.size, 0, none⟩ = some (.slice A3 ns.length c3) := by rw [x9.cell]; rfl
    have y91 : (w4.alloc (.cells #[.slice A3 ns.length c3, .slice A4 ls.length c4] 27)).cell? ⟨w4.heap.size, 1, none⟩ = some (.slice A4 ls.length c4) := by rw [x9.cell]; rfl
    have a2 : Below (w4.alloc (.cells #[.slice A3 ns.length c3, .slice A4 ls.length c4] 27)).heap.size (w4.alloc (.cells #[.slice A3 ns.length c3, .slice A4 ls.length c4] 27)) ((w4.alloc (.cells #[.slice A3 ns.length c3, .slice A4 ls.length c4] 27)).alloc (.cells #[.int .i64 ma, .int .i64 mb] 30)) := (Below.refl _ _).alloc (Nat.le_refl _) _
    have hS6 := UP.out _ _ hS5 a2
    replace k1 := k1.below a2
    replace k2 := k2.below a2
    have x9 := hid (x9.below a2 x9.lt)
    have K1 := hid k1
    have K2 := hid k2
    have L2 := hid lt2
    have PX := hid (pairs_new (w4.alloc (.cells #[.slice A3 ns.length c3, .slice A4 ls.length c4] 27)) [(ma, mb)] 30 #[.int .i64 ma, .int .i64 mb] (w4.heap.size + 1) 1 (by simp) rfl rfl)
    clear k1 k2 lt2 a1 a2
    go_wp2_with (at_builtin; refine wpList_append_pairs rfl _ _ 25 30 rfl ht2 infoLead W0.heap.size _ ls rfl K2.out _ _ rfl PX.out (by simp; omega) (by simp; omega) ?_)
    intro v' w7 hown hgrow
    rw [← L9.out] at hown
    have U7 := grown_row hgrow K2.out (by simp; omega)
    have hS7 := UPG.out _ _ _ hS6 hgrow (fun k e => by have := (L2.out k e).1; omega)
    have k1 := K1.out.beside_row hgrow K2.out (by decide)
    have x9 := x9.out.grown hgrow (fun e => by have := (L2.out _ e.symm).2; omega)
    obtain ⟨A7, c7, rfl⟩ := hown.form
    generalize hg9 : w4.heap.size = g9 at x9 hz4 y90 y91 ⊢
    have e0 : w7.cell? ⟨g9, 1, none⟩ = some (.slice A4 ls.length c4) := by rw [x9.cell]; rfl
    have e1 : w7.frozen? ⟨g9, 1, none⟩ = false := x9.frozen 1
    have k1 := k1.set_far (World.ownsRow.other k1.1 x9 (by decide)) 1 (.slice A7 l9.length c7)
    have k2 := hown.set_far (World.ownsRow.other hown.1 x9 (by decide)) 1 (.slice A7 l9.length c7)
    replace x9 := x9.set_ 1 (.slice A7 l9.length c7)
    have hS8 := UPG.out _ _ _ hS7 (grown_set w7 g9 1 (.slice A7 l9.length c7)) (fun k e => by have := Option.some.inj e; omega)
    have K1 := hid k1
    have K2 := hid k2
    have X9 := hid x9
    obtain ⟨z0, z1⟩ := CELLS.out _ hS8
    clear hown hgrow U7 hS7 hS6 hS5 hS4 k1 k2 x9 y90 y91 hg9 PX
    go_wp2_with fail
    generalize hV8 : w7.setCell ⟨g9, 1, none⟩ (.slice A7 l9.length c7) = w8 at hS8 K1 K2 X9 z0 z1 ⊢
    refine (sWin_any _ _ ns ls _ (PN.out _ hS8) (PL.out _ hS8)).mono ?_
    rintro e w9 ⟨rfl, hb⟩
    have hS9 := UP.out _ _ hS8 hb
    replace K1 := hid (K1.out.below hb)
    replace K2 := hid (K2.out.below hb)
    replace X9 := hid (X9.out.below hb X9.out.lt)
    clear hb z0 z1 hS8 hV8 e0 e1
    obtain ⟨z0, z1⟩ := CELLS.out _ hS9
    cases hw : winOkB ns ls
    · obtain ⟨ef, el⟩ := EF0.out hw
      have EQ1 := hid el
      have EQ2 := hid ef
      clear ef el hw
      go_wp2_with fail
      refine (sCopy_any _ _ ns ls _ (PN.out _ hS9) (PL.out _ hS9) (by omega) (by omega)).mono ?_
      rintro e w11 ⟨r1', r2', rfl, m1', m2', hb⟩
      have hS11 := UP.out _ _ hS9 hb
      have lz := SZ.out _ hS9
      obtain ⟨A5, c5, rfl⟩ := m1'.form
      obtain ⟨A6, c6, rfl⟩ := m2'.form
      have NO := hid (show OwnR w.heap.size 38 ((w11.setCell ⟨w.heap.size + 1, 0, none⟩ (.slice A5 ns.length c5)).setCell ⟨w.heap.size + 1, 1, none⟩ (.slice A6 ls.length c6)) (.slice A5 ns.length c5) ns from ((m1'.set_low (by omega) _ _).set_low (by omega) _ _).less (by omega))
      have LO := hid (show OwnR w.heap.size 30 ((w11.setCell ⟨w.heap.size + 1, 0, none⟩ (.slice A5 ns.length c5)).setCell ⟨w.heap.size + 1, 1, none⟩ (.slice A6 ls.length c6)) (.slice A6 ls.length c6) ls from ((m2'.set_low (by omega) _ _).set_low (by omega) _ _).less (by omega))
      clear hb z0 z1 m1' m2'
      obtain ⟨u0, u1, hR⟩ := SR.out _ hS11
      have r0 : w11.cell? ⟨w.heap.size + 1, 0, none⟩ = some u0 := by rw [hR.cell]; rfl
      have r1 : w11.cell? ⟨w.heap.size + 1, 1, none⟩ = some u1 := by rw [hR.cell]; rfl
      have f0 : w11.frozen? ⟨w.heap.size + 1, 0, none⟩ = false := hR.frozen 0
      have f1 : w11.frozen? ⟨w.heap.size + 1, 1, none⟩ = false := hR.frozen 1
      obtain ⟨hS9, hR2⟩ := ST.out w11 (.slice A5 ns.length c5) (.slice A6 ls.length c6) hS11
      have b9 := BW.out _ hS9
      have t0 : ((w11.setCell ⟨w.heap.size + 1, 0, none⟩ (.slice A5 ns.length c5)).setCell ⟨w.heap.size + 1, 1, none⟩ (.slice A6 ls.length c6)).cell? ⟨w.heap.size + 1, 0, none⟩ = some (.slice A5 ns.length c5) := by rw [hR2.cell]; rfl
      have t1 : ((w11.setCell ⟨w.heap.size + 1, 0, none⟩ (.slice A5 ns.length c5)).setCell ⟨w.heap.size + 1, 1, none⟩ (.slice A6 ls.length c6)).cell? ⟨w.heap.size + 1, 1, none⟩ = some (.slice A6 ls.length c6) := by rw [hR2.cell]; rfl
      clear hS9 hR hR2
      go_wp2
      exact bodyPost_ret (v := .tuple #[.agg #[(.slice A5 ns.length c5), (.slice A6 ls.length c6)], .bool false]) (by simp [results, Try.results23, go_sem, t0, t1]) rfl ⟨_, _, ret_val (by rw [EQ2.out]), NO.out, (by rw [EQ1.out]; exact LO.out), b9⟩
    · have HW := hid hw
      clear hw
      have y0 : w9.cell? ⟨g9, 0, none⟩ = some (.slice A3 ns.length c3) := by rw [X9.out.cell]; rfl
      have y1 : w9.cell? ⟨g9, 1, none⟩ = some (.slice A7 l9.length c7) := by rw [X9.out.cell]; rfl
      go_wp2_with fail
      refine (sWin_any _ _ ns l9 _ K1.out.pairs K2.out.pairs).mono ?_
      rintro e w10 ⟨rfl, hb⟩
      replace hS9 := UP.out _ _ hS9 hb
      replace K1 := hid (K1.out.below hb)
      replace K2 := hid (K2.out.below hb)
      replace X9 := hid (X9.out.below hb X9.out.lt)
      clear hb z0 z1 y0 y1
      obtain ⟨z0, z1⟩ := CELLS.out _ hS9
      cases hq : winOkB ns l9
      · obtain ⟨ef, el⟩ := EF2.out false HW.out hq
        have EQ1 := hid el
        have EQ2 := hid ef
        clear ef el hq
        go_wp2_with fail
        refine (sCopy_any _ _ ns ls _ (PN.out _ hS9) (PL.out _ hS9) (by omega) (by omega)).mono ?_
        rintro e w11 ⟨r1', r2', rfl, m1', m2', hb⟩
        have hS11 := UP.out _ _ hS9 hb
        have lz := SZ.out _ hS9
        obtain ⟨A5, c5, rfl⟩ := m1'.form
        obtain ⟨A6, c6, rfl⟩ := m2'.form
        have NO := hid (show OwnR w.heap.size 38 ((w11.setCell ⟨w.heap.size + 1, 0, none⟩ (.slice A5 ns.length c5)).setCell ⟨w.heap.size + 1, 1, none⟩ (.slice A6 ls.length c6)) (.slice A5 ns.length c5) ns from ((m1'.set_low (by omega) _ _).set_low (by omega) _ _).less (by omega))
        have LO := hid (show OwnR w.heap.size 30 ((w11.setCell ⟨w.heap.size + 1, 0, none⟩ (.slice A5 ns.length c5)).setCell ⟨w.heap.size + 1, 1, none⟩ (.slice A6 ls.length c6)) (.slice A6 ls.length c6) ls from ((m2'.set_low (by omega) _ _).set_low (by omega) _ _).less (by omega))
        clear hb z0 z1 m1' m2'
        obtain ⟨u0, u1, hR⟩ := SR.out _ hS11
        have r0 : w11.cell? ⟨w.heap.size + 1, 0, none⟩ = some u0 := by rw [hR.cell]; rfl
        have r1 : w11.cell? ⟨w.heap.size + 1, 1, none⟩ = some u1 := by rw [hR.cell]; rfl
        have f0 : w11.frozen? ⟨w.heap.size + 1, 0, none⟩ = false := hR.frozen 0
        have f1 : w11.frozen? ⟨w.heap.size + 1, 1, none⟩ = false := hR.frozen 1
        obtain ⟨hS9, hR2⟩ := ST.out w11 (.slice A5 ns.length c5) (.slice A6 ls.length c6) hS11
        have b9 := BW.out _ hS9
        have t0 : ((w11.setCell ⟨w.heap.size + 1, 0, none⟩ (.slice A5 ns.length c5)).setCell ⟨w.heap.size + 1, 1, none⟩ (.slice A6 ls.length c6)).cell? ⟨w.heap.size + 1, 0, none⟩ = some (.slice A5 ns.length c5) := by rw [hR2.cell]; rfl
        have t1 : ((w11.setCell ⟨w.heap.size + 1, 0, none⟩ (.slice A5 ns.length c5)).setCell ⟨w.heap.size + 1, 1, none⟩ (.slice A6 ls.length c6)).cell? ⟨w.heap.size + 1, 1, none⟩ = some (.slice A6 ls.length c6) := by rw [hR2.cell]; rfl
        clear hS9 hR hR2
        go_wp2
        exact bodyPost_ret (v := .tuple #[.agg #[(.slice A5 ns.length c5), (.slice A6 ls.length c6)], .bool false]) (by simp [results, Try.results23, go_sem, t0, t1]) rfl ⟨_, _, ret_val (by rw [EQ2.out]), NO.out, (by rw [EQ1.out]; exact LO.out), b9⟩
      · obtain ⟨ef, el⟩ := EF2.out true HW.out hq
        have EQ1 := hid el
        have EQ2 := hid ef
        have y0 : w10.cell? ⟨g9, 0, none⟩ = some (.slice A3 ns.length c3) := by rw [X9.out.cell]; rfl
        have y1 : w10.cell? ⟨g9, 1, none⟩ = some (.slice A7 l9.length c7) := by rw [X9.out.cell]; rfl
        have NO := hid (show OwnR w.heap.size 38 ((w10.setCell ⟨w.heap.size + 1, 0, none⟩ (.slice A3 ns.length c3)).setCell ⟨w.heap.size + 1, 1, none⟩ (.slice A7 l9.length c7)) (.slice A3 ns.length c3) ns from ((K1.out.set_low (by omega) _ _).set_low (by omega) _ _).less (by omega))
        have LO := hid (show OwnR w.heap.size 30 ((w10.setCell ⟨w.heap.size + 1, 0, none⟩ (.slice A3 ns.length c3)).setCell ⟨w.heap.size + 1, 1, none⟩ (.slice A7 l9.length c7)) (.slice A7 l9.length c7) l9 from ((K2.out.set_low (by omega) _ _).set_low (by omega) _ _).less (by omega))
        clear ef el hq z0 z1
        obtain ⟨u0, u1, hR⟩ := SR.out _ hS9
        have r0 : w10.cell? ⟨w.heap.size + 1, 0, none⟩ = some u0 := by rw [hR.cell]; rfl
        have r1 : w10.cell? ⟨w.heap.size + 1, 1, none⟩ = some u1 := by rw [hR.cell]; rfl
        have f0 : w10.frozen? ⟨w.heap.size + 1, 0, none⟩ = false := hR.frozen 0
        have f1 : w10.frozen? ⟨w.heap.size + 1, 1, none⟩ = false := hR.frozen 1
        obtain ⟨hS9, hR2⟩ := ST.out w10 (.slice A3 ns.length c3) (.slice A7 l9.length c7) hS9
        have b9 := BW.out _ hS9
        have t0 : ((w10.setCell ⟨w.heap.size + 1, 0, none⟩ (.slice A3 ns.length c3)).setCell ⟨w.heap.size + 1, 1, none⟩ (.slice A7 l9.length c7)).cell? ⟨w.heap.size + 1, 0, none⟩ = some (.slice A3 ns.length c3) := by rw [hR2.cell]; rfl
        have t1 : ((w10.setCell ⟨w.heap.size + 1, 0, none⟩ (.slice A3 ns.length c3)).setCell ⟨w.heap.size + 1, 1, none⟩ (.slice A7 l9.length c7)).cell? ⟨w.heap.size + 1, 1, none⟩ = some (.slice A7 l9.length c7) := by rw [hR2.cell]; rfl
        clear hS9 hR hR2
        go_wp2
        exact bodyPost_ret (v := .tuple #[.agg #[(.slice A3 ns.length c3), (.slice A7 l9.length c7)], .bool true]) (by simp [results, Try.results23, go_sem, t0, t1]) rfl ⟨_, _, ret_val (by rw [EQ2.out]), NO.out, (by rw [EQ1.out]; exact LO.out), b9⟩
  · have m1 := MA.out
    have m2 := MB.out
    rw [Int.min_self] at m1; rw [Int.max_self] at m2
    subst m1
    subst m2
    go_enter Try.func23, Try.ntmps23
    go_wp2_with fail
    rw [← hW0]
    clear hW0
    refine (sCopy_any _ _ ns ls _ (PN.out _ S1) (PL.out _ S1) (by omega) (by omega)).mono ?_
    rintro e w4 ⟨q1, q2, rfl, k1, k2, hb⟩
    have hS4 := UP.out _ _ S1 hb
    obtain ⟨A3, c3, rfl⟩ := k1.form
    obtain ⟨A4, c4, rfl⟩ := k2.form
    have hz4 := hb.size
    clear hb z0 z1
    have a1 : Below w4.heap.size w4 (w4.alloc (.cells #[.slice A3 ns.length c3, .slice A4 ls.length c4] 27)) := (Below.refl _ _).alloc (Nat.le_refl _) _
    have hS5 := UP.out _ _ hS4 a1
    replace k1 := k1.below a1
    have lt2 := k2.lt
    replace k2 := k2.below a1
    have x9 := Blk.new w4 27 #[.slice A3 ns.length c3, .slice A4 ls.length c4]
    have y90 : (w4.alloc (.cells #[.slice A3 ns.length c3, .slice A4 ls.length c4] 27)).cell? ⟨w4.heap.size, 0, none⟩ = some (.slice A3 ns.length c3) := by rw [x9.cell]; rfl
    have y91 : (w4.alloc (.cells #[.slice A3 ns.length c3, .slice A4 ls.length c4] 27)).cell? ⟨w4.heap.size, 1, none⟩ = some (.slice A4 ls.length c4) := by rw [x9.cell]; rfl
    have a2 : Below (w4.alloc (.cells #[.slice A3 ns.length c3, .slice A4 ls.length c4] 27)).heap.size (w4.alloc (.cells #[.slice A3 ns.length c3, .slice A4 ls.length c4] 27)) ((w4.alloc (.cells #[.slice A3 ns.length c3, .slice A4 ls.length c4] 27)).alloc (.cells #[.int .i64 mb, .int .i64 mb] 30)) := (Below.refl _ _).alloc (Nat.le_refl _) _
    have hS6 := UP.out _ _ hS5 a2
    replace k1 := k1.below a2
    replace k2 := k2.below a2
    have x9 := hid (x9.below a2 x9.lt)
    have K1 := hid k1
    have K2 := hid k2
    have L2 := hid lt2
    have PX := hid (pairs_new (w4.alloc (.cells #[.slice A3 ns.length c3, .slice A4 ls.length c4] 27)) [(mb, mb)] 30 #[.int .i64 mb, .int .i64 mb] (w4.heap.size + 1) 1 (by simp) rfl rfl)
    clear k1 k2 lt2 a1 a2
    go_wp2_with (at_builtin; refine wpList_append_pairs rfl _ _ 25 30 rfl ht2 infoLead W0.heap.size _ ls rfl K2.out _ _ rfl PX.out (by simp; omega) (by simp; omega) ?_)
    intro v' w7 hown hgrow
    rw [← L9.out] at hown
    have U7 := grown_row hgrow K2.out (by simp; omega)
    have hS7 := UPG.out _ _ _ hS6 hgrow (fun k e => by have := (L2.out k e).1; omega)
    have k1 := K1.out.beside_row hgrow K2.out (by decide)
    have x9 := x9.out.grown hgrow (fun e => by have := (L2.out _ e.symm).2; omega)
    obtain ⟨A7, c7, rfl⟩ := hown.form
    generalize hg9 : w4.heap.size = g9 at x9 hz4 y90 y91 ⊢
    have e0 : w7.cell? ⟨g9, 1, none⟩ = some (.slice A4 ls.length c4) := by rw [x9.cell]; rfl
    have e1 : w7.frozen? ⟨g9, 1, none⟩ = false := x9.frozen 1
    have k1 := k1.set_far (World.ownsRow.other k1.1 x9 (by decide)) 1 (.slice A7 l9.length c7)
    have k2 := hown.set_far (World.ownsRow.other hown.1 x9 (by decide)) 1 (.slice A7 l9.length c7)
    replace x9 := x9.set_ 1 (.slice A7 l9.length c7)
    have hS8 := UPG.out _ _ _ hS7 (grown_set w7 g9 1 (.slice A7 l9.length c7)) (fun k e => by have := Option.some.inj e; omega)
    have K1 := hid k1
    have K2 := hid k2
    have X9 := hid x9
    obtain ⟨z0, z1⟩ := CELLS.out _ hS8
    clear hown hgrow U7 hS7 hS6 hS5 hS4 k1 k2 x9 y90 y91 hg9 PX
    go_wp2_with fail
    generalize hV8 : w7.setCell ⟨g9, 1, none⟩ (.slice A7 l9.length c7) = w8 at hS8 K1 K2 X9 z0 z1 ⊢
    refine (sWin_any _ _ ns ls _ (PN.out _ hS8) (PL.out _ hS8)).mono ?_
    rintro e w9 ⟨rfl, hb⟩
    have hS9 := UP.out _ _ hS8 hb
    replace K1 := hid (K1.out.below hb)
    replace K2 := hid (K2.out.below hb)
    replace X9 := hid (X9.out.below hb X9.out.lt)
    clear hb z0 z1 hS8 hV8 e0 e1
    obtain ⟨z0, z1⟩ := CELLS.out _ hS9
    cases hw : winOkB ns ls
    · obtain ⟨ef, el⟩ := EF0.out hw
      have EQ1 := hid el
      have EQ2 := hid ef
      clear ef el hw
      go_wp2_with fail
      refine (sCopy_any _ _ ns ls _ (PN.out _ hS9) (PL.out _ hS9) (by omega) (by omega)).mono ?_
      rintro e w11 ⟨r1', r2', rfl, m1', m2', hb⟩
      have hS11 := UP.out _ _ hS9 hb
      have lz := SZ.out _ hS9
      obtain ⟨A5, c5, rfl⟩ := m1'.form
      obtain ⟨A6, c6, rfl⟩ := m2'.form
      have NO := hid (show OwnR w.heap.size 38 ((w11.setCell ⟨w.heap.size + 1, 0, none⟩ (.slice A5 ns.length c5)).setCell ⟨w.heap.size + 1, 1, none⟩ (.slice A6 ls.length c6)) (.slice A5 ns.length c5) ns from ((m1'.set_low (by omega) _ _).set_low (by omega) _ _).less (by omega))
      have LO := hid (show OwnR w.heap.size 30 ((w11.setCell ⟨w.heap.size + 1, 0, none⟩ (.slice A5 ns.length c5)).setCell ⟨w.heap.size + 1, 1, none⟩ (.slice A6 ls.length c6)) (.slice A6 ls.length c6) ls from ((m2'.set_low (by omega) _ _).set_low (by omega) _ _).less (by omega))
      clear hb z0 z1 m1' m2'
      obtain ⟨u0, u1, hR⟩ := SR.out _ hS11
      have r0 : w11.cell? ⟨w.heap.size + 1, 0, none⟩ = some u0 := by rw [hR.cell]; rfl
      have r1 : w11.cell? ⟨w.heap.size + 1, 1, none⟩ = some u1 := by rw [hR.cell]; rfl
      have f0 : w11.frozen? ⟨w.heap.size + 1, 0, none⟩ = false := hR.frozen 0
      have f1 : w11.frozen? ⟨w.heap.size + 1, 1, none⟩ = false := hR.frozen 1
      obtain ⟨hS9, hR2⟩ := ST.out w11 (.slice A5 ns.length c5) (.slice A6 ls.length c6) hS11
      have b9 := BW.out _ hS9
      have t0 : ((w11.setCell ⟨w.heap.size + 1, 0, none⟩ (.slice A5 ns.length c5)).setCell ⟨w.heap.size + 1, 1, none⟩ (.slice A6 ls.length c6)).cell? ⟨w.heap.size + 1, 0, none⟩ = some (.slice A5 ns.length c5) := by rw [hR2.cell]; rfl
      have t1 : ((w11.setCell ⟨w.heap.size + 1, 0, none⟩ (.slice A5 ns.length c5)).setCell ⟨w.heap.size + 1, 1, none⟩ (.slice A6 ls.length c6)).cell? ⟨w.heap.size + 1, 1, none⟩ = some (.slice A6 ls.length c6) := by rw [hR2.cell]; rfl
      clear hS9 hR hR2
      go_wp2
      exact bodyPost_ret (v := .tuple #[.agg #[(.slice A5 ns.length c5), (.slice A6 ls.length c6)], .bool false]) (by simp [results, Try.results23, go_sem, t0, t1]) rfl ⟨_, _, ret_val (by rw [EQ2.out]), NO.out, (by rw [EQ1.out]; exact LO.out), b9⟩
    · have HW := hid hw
      clear hw
      have y0 : w9.cell? ⟨g9, 0, none⟩ = some (.slice A3 ns.length c3) := by rw [X9.out.cell]; rfl
      have y1 : w9.cell? ⟨g9, 1, none⟩ = some (.slice A7 l9.length c7) := by rw [X9.out.cell]; rfl
      go_wp2_with fail
      refine (sWin_any _ _ ns l9 _ K1.out.pairs K2.out.pairs).mono ?_
      rintro e w10 ⟨rfl, hb⟩
      replace hS9 := UP.out _ _ hS9 hb
      replace K1 := hid (K1.out.below hb)
      replace K2 := hid (K2.out.below hb)
      replace X9 := hid (X9.out.below hb X9.out.lt)
      clear hb z0 z1 y0 y1
      obtain ⟨z0, z1⟩ := CELLS.out _ hS9
      cases hq : winOkB ns l9
      · obtain ⟨ef, el⟩ := EF2.out false HW.out hq
        have EQ1 := hid el
        have EQ2 := hid ef
        clear ef el hq
        go_wp2_with fail
        refine (sCopy_any _ _ ns ls _ (PN.out _ hS9) (PL.out _ hS9) (by omega) (by omega)).mono ?_
        rintro e w11 ⟨r1', r2', rfl, m1', m2', hb⟩
        have hS11 := UP.out _ _ hS9 hb
        have lz := SZ.out _ hS9
        obtain ⟨A5, c5, rfl⟩ := m1'.form
        obtain ⟨A6, c6, rfl⟩ := m2'.form
        have NO := hid (show OwnR w.heap.size 38 ((w11.setCell ⟨w.heap.size + 1, 0, none⟩ (.slice A5 ns.length c5)).setCell ⟨w.heap.size + 1, 1, none⟩ (.slice A6 ls.length c6)) (.slice A5 ns.length c5) ns from ((m1'.set_low (by omega) _ _).set_low (by omega) _ _).less (by omega))
        have LO := hid (show OwnR w.heap.size 30 ((w11.setCell ⟨w.heap.size + 1, 0, none⟩ (.slice A5 ns.length c5)).setCell ⟨w.heap.size + 1, 1, none⟩ (.slice A6 ls.length c6)) (.slice A6 ls.length c6) ls from ((m2'.set_low (by omega) _ _).set_low (by omega) _ _).less (by omega))
        clear hb z0 z1 m1' m2'
        obtain ⟨u0, u1, hR⟩ := SR.out _ hS11
        have r0 : w11.cell? ⟨w.heap.size + 1, 0, none⟩ = some u0 := by rw [hR.cell]; rfl
        have r1 : w11.cell? ⟨w.heap.size + 1, 1, none⟩ = some u1 := by rw [hR.cell]; rfl
        have f0 : w11.frozen? ⟨w.heap.size + 1, 0, none⟩ = false := hR.frozen 0
        have f1 : w11.frozen? ⟨w.heap.size + 1, 1, none⟩ = false := hR.frozen 1
        obtain ⟨hS9, hR2⟩ := ST.out w11 (.slice A5 ns.length c5) (.slice A6 ls.length c6) hS11
        have b9 := BW.out _ hS9
        have t0 : ((w11.setCell ⟨w.heap.size + 1, 0, none⟩ (.slice A5 ns.length c5)).setCell ⟨w.heap.size + 1, 1, none⟩ (.slice A6 ls.length c6)).cell? ⟨w.heap.size + 1, 0, none⟩ = some (.slice A5 ns.length c5) := by rw [hR2.cell]; rfl
        have t1 : ((w11.setCell ⟨w.heap.size + 1, 0, none⟩ (.slice A5 ns.length c5)).setCell ⟨w.heap.size + 1, 1, none⟩ (.slice A6 ls.length c6)).cell? ⟨w.heap.size + 1, 1, none⟩ = some (.slice A6 ls.length c6) := by rw [hR2.cell]; rfl
        clear hS9 hR hR2
        go_wp2
        exact bodyPost_ret (v := .tuple #[.agg #[(.slice A5 ns.length c5), (.slice A6 ls.length c6)], .bool false]) (by simp [results, Try.results23, go_sem, t0, t1]) rfl ⟨_, _, ret_val (by rw [EQ2.out]), NO.out, (by rw [EQ1.out]; exact LO.out), b9⟩
      · obtain ⟨ef, el⟩ := EF2.out true HW.out hq
        have EQ1 := hid el
        have EQ2 := hid ef
        have y0 : w10.cell? ⟨g9, 0, none⟩ = some (.slice A3 ns.length c3) := by rw [X9.out.cell]; rfl
        have y1 : w10.cell? ⟨g9, 1, none⟩ = some (.slice A7 l9.length c7) := by rw [X9.out.cell]; rfl
        have NO := hid (show OwnR w.heap.size 38 ((w10.setCell ⟨w.heap.size + 1, 0, none⟩ (.slice A3 ns.length c3)).setCell ⟨w.heap.size + 1, 1, none⟩ (.slice A7 l9.length c7)) (.slice A3 ns.length c3) ns from ((K1.out.set_low (by omega) _ _).set_low (by omega) _ _).less (by omega))
        have LO := hid (show OwnR w.heap.size 30 ((w10.setCell ⟨w.heap.size + 1, 0, none⟩ (.slice A3 ns.length c3)).setCell ⟨w.heap.size + 1, 1, none⟩ (.slice A7 l9.length c7)) (.slice A7 l9.length c7) l9 from ((K2.out.set_low (by omega) _ _).set_low (by omega) _ _).less (by omega))
        clear ef el hq z0 z1
        obtain ⟨u0, u1, hR⟩ := SR.out _ hS9
        have r0 : w10.cell? ⟨w.heap.size + 1, 0, none⟩ = some u0 := by rw [hR.cell]; rfl
        have r1 : w10.cell? ⟨w.heap.size + 1, 1, none⟩ = some u1 := by rw [hR.cell]; rfl
        have f0 : w10.frozen? ⟨w.heap.size + 1, 0, none⟩ = false := hR.frozen 0
        have f1 : w10.frozen? ⟨w.heap.size + 1, 1, none⟩ = false := hR.frozen 1
        obtain ⟨hS9, hR2⟩ := ST.out w10 (.slice A3 ns.length c3) (.slice A7 l9.length c7) hS9
        have b9 := BW.out _ hS9
        have t0 : ((w10.setCell ⟨w.heap.size + 1, 0, none⟩ (.slice A3 ns.length c3)).setCell ⟨w.heap.size + 1, 1, none⟩ (.slice A7 l9.length c7)).cell? ⟨w.heap.size + 1, 0, none⟩ = some (.slice A3 ns.length c3) := by rw [hR2.cell]; rfl
        have t1 : ((w10.setCell ⟨w.heap.size + 1, 0, none⟩ (.slice A3 ns.length c3)).setCell ⟨w.heap.size + 1, 1, none⟩ (.slice A7 l9.length c7)).cell? ⟨w.heap.size + 1, 1, none⟩ = some (.slice A7 l9.length c7) := by rw [hR2.cell]; rfl
        clear hS9 hR hR2
        go_wp2
        exact bodyPost_ret (v := .tuple #[.agg #[(.slice A3 ns.length c3), (.slice A7 l9.length c7)], .bool true]) (by simp [results, Try.results23, go_sem, t0, t1]) rfl ⟨_, _, ret_val (by rw [EQ2.out]), NO.out, (by rw [EQ1.out]; exact LO.out), b9⟩
  · have m1 := MA.out
    have m2 := MB.out
    rw [Int.min_eq_right (Int.le_of_lt hx)] at m1; rw [Int.max_eq_left (Int.le_of_lt hx)] at m2
    subst m1
    subst m2
    go_enter Try.func23, Try.ntmps23
    go_wp2_with fail
    rw [← hW0]
    clear hW0
    refine (sCopy_any _ _ ns ls _ (PN.out _ S1) (PL.out _ S1) (by omega) (by omega)).mono ?_
    rintro e w4 ⟨q1, q2, rfl, k1, k2, hb⟩
    have hS4 := UP.out _ _ S1 hb
    obtain ⟨A3, c3, rfl⟩ := k1.form
    obtain ⟨A4, c4, rfl⟩ := k2.form
    have hz4 := hb.size
    clear hb z0 z1
    have a1 : Below w4.heap.size w4 (w4.alloc (.cells #[.slice A3 ns.length c3, .slice A4 ls.length c4] 27)) := (Below.refl _ _).alloc (Nat.le_refl _) _
    have hS5 := UP.out _ _ hS4 a1
    replace k1 := k1.below a1
    have lt2 := k2.lt
    replace k2 := k2.below a1
    have x9 := Blk.new w4 27 #[.slice A3 ns.length c3, .slice A4 ls.length c4]
    have y90 : (w4.alloc (.cells #[.slice A3 ns.length c3, .slice A4 ls.length c4] 27)).cell? ⟨w4.heap.size, 0, none⟩ = some (.slice A3 ns.length c3) := by rw [x9.cell]; rfl
    have y91 : (w4.alloc (.cells #[.slice A3 ns.length c3, .slice A4 ls.length c4] 27)).cell? ⟨w4.heap.size, 1, none⟩ = some (.slice A4 ls.length c4) := by rw [x9.cell]; rfl
    have a2 : Below (w4.alloc (.cells #[.slice A3 ns.length c3, .slice A4 ls.length c4] 27)).heap.size (w4.alloc (.cells #[.slice A3 ns.length c3, .slice A4 ls.length c4] 27)) ((w4.alloc (.cells #[.slice A3 ns.length c3, .slice A4 ls.length c4] 27)).alloc (.cells #[.int .i64 ma, .int .i64 mb] 30)) := (Below.refl _ _).alloc (Nat.le_refl _) _
    have hS6 := UP.out _ _ hS5 a2
    replace k1 := k1.below a2
    replace k2 := k2.below a2
    have x9 := hid (x9.below a2 x9.lt)
    have K1 := hid k1
    have K2 := hid k2
    have L2 := hid lt2
    have PX := hid (pairs_new (w4.alloc (.cells #[.slice A3 ns.length c3, .slice A4 ls.length c4] 27)) [(ma, mb)] 30 #[.int .i64 ma, .int .i64 mb] (w4.heap.size + 1) 1 (by simp) rfl rfl)
    clear k1 k2 lt2 a1 a2
    go_wp2_with (at_builtin; refine wpList_append_pairs rfl _ _ 25 30 rfl ht2 infoLead W0.heap.size _ ls rfl K2.out _ _ rfl PX.out (by simp; omega) (by simp; omega) ?_)
    intro v' w7 hown hgrow
    rw [← L9.out] at hown
    have U7 := grown_row hgrow K2.out (by simp; omega)
    have hS7 := UPG.out _ _ _ hS6 hgrow (fun k e => by have := (L2.out k e).1; omega)
    have k1 := K1.out.beside_row hgrow K2.out (by decide)
    have x9 := x9.out.grown hgrow (fun e => by have := (L2.out _ e.symm).2; omega)
    obtain ⟨A7, c7, rfl⟩ := hown.form
    generalize hg9 : w4.heap.size = g9 at x9 hz4 y90 y91 ⊢
    have e0 : w7.cell? ⟨g9, 1, none⟩ = some (.slice A4 ls.length c4) := by rw [x9.cell]; rfl
    have e1 : w7.frozen? ⟨g9, 1, none⟩ = false := x9.frozen 1
    have k1 := k1.set_far (World.ownsRow.other k1.1 x9 (by decide)) 1 (.slice A7 l9.length c7)
    have k2 := hown.set_far (World.ownsRow.other hown.1 x9 (by decide)) 1 (.slice A7 l9.length c7)
    replace x9 := x9.set_ 1 (.slice A7 l9.length c7)
    have hS8 := UPG.out _ _ _ hS7 (grown_set w7 g9 1 (.slice A7 l9.length c7)) (fun k e => by have := Option.some.inj e; omega)
    have K1 := hid k1
    have K2 := hid k2
    have X9 := hid x9
    obtain ⟨z0, z1⟩ := CELLS.out _ hS8
    clear hown hgrow U7 hS7 hS6 hS5 hS4 k1 k2 x9 y90 y91 hg9 PX
    go_wp2_with fail
    generalize hV8 : w7.setCell ⟨g9, 1, none⟩ (.slice A7 l9.length c7) = w8 at hS8 K1 K2 X9 z0 z1 ⊢
    refine (sWin_any _ _ ns ls _ (PN.out _ hS8) (PL.out _ hS8)).mono ?_
    rintro e w9 ⟨rfl, hb⟩
    have hS9 := UP.out _ _ hS8 hb
    replace K1 := hid (K1.out.below hb)
    replace K2 := hid (K2.out.below hb)
    replace X9 := hid (X9.out.below hb X9.out.lt)
    clear hb z0 z1 hS8 hV8 e0 e1
    obtain ⟨z0, z1⟩ := CELLS.out _ hS9
    cases hw : winOkB ns ls
    · obtain ⟨ef, el⟩ := EF0.out hw
      have EQ1 := hid el
      have EQ2 := hid ef
      clear ef el hw
      go_wp2_with fail
      refine (sCopy_any _ _ ns ls _ (PN.out _ hS9) (PL.out _ hS9) (by omega) (by omega)).mono ?_
      rintro e w11 ⟨r1', r2', rfl, m1', m2', hb⟩
      have hS11 := UP.out _ _ hS9 hb
      have lz := SZ.out _ hS9
      obtain ⟨A5, c5, rfl⟩ := m1'.form
      obtain ⟨A6, c6, rfl⟩ := m2'.form
      have NO := hid (show OwnR w.heap.size 38 ((w11.setCell ⟨w.heap.size + 1, 0, none⟩ (.slice A5 ns.length c5)).setCell ⟨w.heap.size + 1, 1, none⟩ (.slice A6 ls.length c6)) (.slice A5 ns.length c5) ns from ((m1'.set_low (by omega) _ _).set_low (by omega) _ _).less (by omega))
      have LO := hid (show OwnR w.heap.size 30 ((w11.setCell ⟨w.heap.size + 1, 0, none⟩ (.slice A5 ns.length c5)).setCell ⟨w.heap.size + 1, 1, none⟩ (.slice A6 ls.length c6)) (.slice A6 ls.length c6) ls from ((m2'.set_low (by omega) _ _).set_low (by omega) _ _).less (by omega))
      clear hb z0 z1 m1' m2'
      obtain ⟨u0, u1, hR⟩ := SR.out _ hS11
      have r0 : w11.cell? ⟨w.heap.size + 1, 0, none⟩ = some u0 := by rw [hR.cell]; rfl
      have r1 : w11.cell? ⟨w.heap.size + 1, 1, none⟩ = some u1 := by rw [hR.cell]; rfl
      have f0 : w11.frozen? ⟨w.heap.size + 1, 0, none⟩ = false := hR.frozen 0
      have f1 : w11.frozen? ⟨w.heap.size + 1, 1, none⟩ = false := hR.frozen 1
      obtain ⟨hS9, hR2⟩ := ST.out w11 (.slice A5 ns.length c5) (.slice A6 ls.length c6) hS11
      have b9 := BW.out _ hS9
      have t0 : ((w11.setCell ⟨w.heap.size + 1, 0, none⟩ (.slice A5 ns.length c5)).setCell ⟨w.heap.size + 1, 1, none⟩ (.slice A6 ls.length c6)).cell? ⟨w.heap.size + 1, 0, none⟩ = some (.slice A5 ns.length c5) := by rw [hR2.cell]; rfl
      have t1 : ((w11.setCell ⟨w.heap.size + 1, 0, none⟩ (.slice A5 ns.length c5)).setCell ⟨w.heap.size + 1, 1, none⟩ (.slice A6 ls.length c6)).cell? ⟨w.heap.size + 1, 1, none⟩ = some (.slice A6 ls.length c6) := by rw [hR2.cell]; rfl
      clear hS9 hR hR2
      go_wp2
      exact bodyPost_ret (v := .tuple #[.agg #[(.slice A5 ns.length c5), (.slice A6 ls.length c6)], .bool false]) (by simp [results, Try.results23, go_sem, t0, t1]) rfl ⟨_, _, ret_val (by rw [EQ2.out]), NO.out, (by rw [EQ1.out]; exact LO.out), b9⟩
    · have HW := hid hw
      clear hw
      have y0 : w9.cell? ⟨g9, 0, none⟩ = some (.slice A3 ns.length c3) := by rw [X9.out.cell]; rfl
      have y1 : w9.cell? ⟨g9, 1, none⟩ = some (.slice A7 l9.length c7) := by rw [X9.out.cell]; rfl
      go_wp2_with fail
      refine (sWin_any _ _ ns l9 _ K1.out.pairs K2.out.pairs).mono ?_
      rintro e w10 ⟨rfl, hb⟩
      replace hS9 := UP.out _ _ hS9 hb
      replace K1 := hid (K1.out.below hb)
      replace K2 := hid (K2.out.below hb)
      replace X9 := hid (X9.out.below hb X9.out.lt)
      clear hb z0 z1 y0 y1
      obtain ⟨z0, z1⟩ := CELLS.out _ hS9
      cases hq : winOkB ns l9
      · obtain ⟨ef, el⟩ := EF2.out false HW.out hq
        have EQ1 := hid el
        have EQ2 := hid ef
        clear ef el hq
        go_wp2_with fail
        refine (sCopy_any _ _ ns ls _ (PN.out _ hS9) (PL.out _ hS9) (by omega) (by omega)).mono ?_
        rintro e w11 ⟨r1', r2', rfl, m1', m2', hb⟩
        have hS11 := UP.out _ _ hS9 hb
        have lz := SZ.out _ hS9
        obtain ⟨A5, c5, rfl⟩ := m1'.form
        obtain ⟨A6, c6, rfl⟩ := m2'.form
        have NO := hid (show OwnR w.heap.size 38 ((w11.setCell ⟨w.heap.size + 1, 0, none⟩ (.slice A5 ns.length c5)).setCell ⟨w.heap.size + 1, 1, none⟩ (.slice A6 ls.length c6)) (.slice A5 ns.length c5) ns from ((m1'.set_low (by omega) _ _).set_low (by omega) _ _).less (by omega))
        have LO := hid (show OwnR w.heap.size 30 ((w11.setCell ⟨w.heap.size + 1, 0, none⟩ (.slice A5 ns.length c5)).setCell ⟨w.heap.size + 1, 1, none⟩ (.slice A6 ls.length c6)) (.slice A6 ls.length c6) ls from ((m2'.set_low (by omega) _ _).set_low (by omega) _ _).less (by omega))
        clear hb z0 z1 m1' m2'
        obtain ⟨u0, u1, hR⟩ := SR.out _ hS11
        have r0 : w11.cell? ⟨w.heap.size + 1, 0, none⟩ = some u0 := by rw [hR.cell]; rfl
        have r1 : w11.cell? ⟨w.heap.size + 1, 1, none⟩ = some u1 := by rw [hR.cell]; rfl
        have f0 : w11.frozen? ⟨w.heap.size + 1, 0, none⟩ = false := hR.frozen 0
        have f1 : w11.frozen? ⟨w.heap.size + 1, 1, none⟩ = false := hR.frozen 1
        obtain ⟨hS9, hR2⟩ := ST.out w11 (.slice A5 ns.length c5) (.slice A6 ls.length c6) hS11
        have b9 := BW.out _ hS9
        have t0 : ((w11.setCell ⟨w.heap.size + 1, 0, none⟩ (.slice A5 ns.length c5)).setCell ⟨w.heap.size + 1, 1, none⟩ (.slice A6 ls.length c6)).cell? ⟨w.heap.size + 1, 0, none⟩ = some (.slice A5 ns.length c5) := by rw [hR2.cell]; rfl
        have t1 : ((w11.setCell ⟨w.heap.size + 1, 0, none⟩ (.slice A5 ns.length c5)).setCell ⟨w.heap.size + 1, 1, none⟩ (.slice A6 ls.length c6)).cell? ⟨w.heap.size + 1, 1, none⟩ = some (.slice A6 ls.length c6) := by rw [hR2.cell]; rfl
        clear hS9 hR hR2
        go_wp2
        exact bodyPost_ret (v := .tuple #[.agg #[(.slice A5 ns.length c5), (.slice A6 ls.length c6)], .bool false]) (by simp [results, Try.results23, go_sem, t0, t1]) rfl ⟨_, _, ret_val (by rw [EQ2.out]), NO.out, (by rw [EQ1.out]; exact LO.out), b9⟩
      · obtain ⟨ef, el⟩ := EF2.out true HW.out hq
        have EQ1 := hid el
        have EQ2 := hid ef
        have y0 : w10.cell? ⟨g9, 0, none⟩ = some (.slice A3 ns.length c3) := by rw [X9.out.cell]; rfl
        have y1 : w10.cell? ⟨g9, 1, none⟩ = some (.slice A7 l9.length c7) := by rw [X9.out.cell]; rfl
        have NO := hid (show OwnR w.heap.size 38 ((w10.setCell ⟨w.heap.size + 1, 0, none⟩ (.slice A3 ns.length c3)).setCell ⟨w.heap.size + 1, 1, none⟩ (.slice A7 l9.length c7)) (.slice A3 ns.length c3) ns from ((K1.out.set_low (by omega) _ _).set_low (by omega) _ _).less (by omega))
        have LO := hid (show OwnR w.heap.size 30 ((w10.setCell ⟨w.heap.size + 1, 0, none⟩ (.slice A3 ns.length c3)).setCell ⟨w.heap.size + 1, 1, none⟩ (.slice A7 l9.length c7)) (.slice A7 l9.length c7) l9 from ((K2.out.set_low (by omega) _ _).set_low (by omega) _ _).less (by omega))
        clear ef el hq z0 z1
        obtain ⟨u0, u1, hR⟩ := SR.out _ hS9
        have r0 : w10.cell? ⟨w.heap.size + 1, 0, none⟩ = some u0 := by rw [hR.cell]; rfl
        have r1 : w10.cell? ⟨w.heap.size + 1, 1, none⟩ = some u1 := by rw [hR.cell]; rfl
        have f0 : w10.frozen? ⟨w.heap.size + 1, 0, none⟩ = false := hR.frozen 0
        have f1 : w10.frozen? ⟨w.heap.size + 1, 1, none⟩ = false := hR.frozen 1
        obtain ⟨hS9, hR2⟩ := ST.out w10 (.slice A3 ns.length c3) (.slice A7 l9.length c7) hS9
        have b9 := BW.out _ hS9
        have t0 : ((w10.setCell ⟨w.heap.size + 1, 0, none⟩ (.slice A3 ns.length c3)).setCell ⟨w.heap.size + 1, 1, none⟩ (.slice A7 l9.length c7)).cell? ⟨w.heap.size + 1, 0, none⟩ = some (.slice A3 ns.length c3) := by rw [hR2.cell]; rfl
        have t1 : ((w10.setCell ⟨w.heap.size + 1, 0, none⟩ (.slice A3 ns.length c3)).setCell ⟨w.heap.size + 1, 1, none⟩ (.slice A7 l9.length c7)).cell? ⟨w.heap.size + 1, 1, none⟩ = some (.slice A7 l9.length c7) := by rw [hR2.cell]; rfl
        clear hS9 hR hR2
        go_wp2
        exact bodyPost_ret (v := .tuple #[.agg #[(.slice A3 ns.length c3), (.slice A7 l9.length c7)], .bool true]) (by simp [results, Try.results23, go_sem, t0, t1]) rfl ⟨_, _, ret_val (by rw [EQ2.out]), NO.out, (by rw [EQ1.out]; exact LO.out), b9⟩
end Go.Proofs.Ytbijbohkpjnjnaa

/- The walks of the laws on AddLead and DropLead: each returns true. No condition. -/
import Derived.Test.YtmkgdilabpehlaaMarkR
import Derived.Test.YtmkgdilabpehlaaDrop
import Derived.Test.YtmkgdilabpehlaaHeld
namespace Go.Proofs.Ytmkgdilabpehlaa
open Go.ChangeShapes Go.WideShapes Go.ChangeAt Go.RowKit
set_option maxHeartbeats 4000000
set_option maxRecDepth 100000
set_option linter.unusedSimpArgs false
set_option linter.unusedVariables false
theorem OwnPairs.lt {B : Nat} {T : TypeId} {w : World} {v : Value} {ns : List (Int × Int)} (h : OwnPairs B T w v ns) : ∀ g, v.ownBlock = some g → g < w.heap.size := fun g e => by
  obtain ⟨g9, e9, _, _, k9⟩ := h
  rw [e9] at e
  have e : g9 = g := by simpa [Value.ownBlock] using e
  exact e ▸ k9.lt
theorem blk_eq {g g1 o n c : Nat} (q : some g = (Value.slice (some ⟨g1, o, none⟩) n c).ownBlock) : g = g1 := by simpa [Value.ownBlock] using q
theorem alL_len {ns ls : List (Int × Int)} (a b : Int) (h : ls.length ≤ 1048576) : (alL ns ls a b).length ≤ 1048576 := by
  unfold alL
  split
  · rename_i q
    unfold alF at q
    simp only [Bool.and_eq_true] at q
    have := (win_leads q.2).1
    omega
  · exact h
theorem dlL_len {ns ls : List (Int × Int)} (k : Int) (h : ls.length ≤ 1048576) : (dlL ns ls k).length ≤ 1048576 := by
  unfold dlL
  split
  · rw [List.length_append, List.length_take, List.length_drop]; omega
  · exact h
theorem FnExactAddLead_walk (w : World) (vn vl : Value) (ns ls : List (Int × Int)) (hn : PairsAt w vn ns) (hl : PairsAt w vl ls) (x1 : Int) (_ : (Lit.int .i64 x1).wf = true) (x2 : Int) (_ : (Lit.int .i64 x2).wf = true) : Calls Try.prog 7 #[.agg #[vn, vl], .int .i64 x1, .int .i64 x2] w fun e w' => e = .returned (.bool true) ∧ Below w.heap.size w w' := by
  have s0 : Below w.heap.size w (w.alloc (.cells #[vn, vl] 25)) := (Below.refl _ _).alloc (Nat.le_refl _) _
  have HN := hid (hn.below s0)
  have HL := hid (hl.below s0)
  have B0 := hid (BoxV.new w vn vl 25 w.heap.size rfl)
  have S0 := hid s0
  clear s0
  obtain ⟨A, c, rfl, _, _, _⟩ := id hn
  obtain ⟨A', c', rfl, _, _, _⟩ := id hl
  clear hn hl
  have v0 := B0.out.c0
  have v1 := B0.out.c1
  by_cases h : szW 1048576 ns.length ls.length < 0
  · have H := hid h
    clear h
    go_enter Try.func7, Try.ntmps7
    go_wp2_with fail
    refine (szWindow_any _ _ ns ls _ _ HN.out HL.out (by omega) (by omega)).mono ?_
    rintro e w1 ⟨rfl, hb1⟩
    have h := H.out
    go_wp2
    go_ret
    exact ⟨rfl, then_ S0.out hb1 S0.out.size⟩
  · have hd : ns.length ≤ 1048576 ∧ ls.length ≤ 1048576 := by unfold szW szF at h; split at h <;> (try split at h) <;> omega
    have HD := hid hd
    have H := hid (show 0 ≤ szW 1048576 ns.length ls.length by omega)
    have HX := hid (show (alL ns ls x1 x2).length ≤ 1048576 from alL_len x1 x2 hd.2)
    have CS := hid (fun vn vl W (p : PairsAt W vn ns) (q : PairsAt W vl ls) => sAdd_any vn vl ns ls x1 x2 W p q (by omega) (by omega))
    have CI := hid (fun vn vl W (p : PairsAt W vn ns) (q : PairsAt W vl ls) => iAdd_any vn vl ns ls x1 x2 W p q (by omega) (by omega))
    clear h hd
    generalize alL ns ls x1 x2 = L at CS CI HX
    generalize alF ns ls x1 x2 = ok at CS CI
    cases ok
    all_goals
      go_enter Try.func7, Try.ntmps7
      go_wp2_with fail
      refine (szWindow_any _ _ ns ls _ _ HN.out HL.out (by omega) (by omega)).mono ?_
      rintro e w1 ⟨rfl, hb⟩
      have B0 := hid (B0.out.below hb)
      have S0 := hid (then_ S0.out hb S0.out.size)
      have HN := hid (HN.out.below hb)
      have HL := hid (HL.out.below hb)
      have v0 := B0.out.c0
      have v1 := B0.out.c1
      clear hb
      have h := H.out
      go_wp2_with fail
      refine (toWindow_any _ _ ns ls _ HN.out HL.out HD.out.1 HD.out.2).mono ?_
      rintro e w2 ⟨p1, p2, rfl, ho1, ho2, hb⟩
      have B0 := hid (B0.out.below hb)
      have S0 := hid (then_ S0.out hb S0.out.size)
      have HN := hid (HN.out.below hb)
      have HL := hid (HL.out.below hb)
      have v0 := B0.out.c0
      have v1 := B0.out.c1
      have P1 := hid ho1.pairs
      have P2 := hid ho2.pairs
      clear hb ho1 ho2
      go_wp2_with fail
      refine (CS.out _ _ _ P1.out P2.out).mono ?_
      rintro e w3 ⟨p1, p2, rfl, o1, o2, hb⟩
      have B0 := hid (B0.out.below hb)
      have S0 := hid (then_ S0.out hb S0.out.size)
      have HN := hid (HN.out.below hb)
      have HL := hid (HL.out.below hb)
      have v0 := B0.out.c0
      have v1 := B0.out.c1
      obtain ⟨A1, c1, rfl⟩ := o1.form
      obtain ⟨A2, c2, rfl⟩ := o2.form
      have a1 : Below w3.heap.size w3 (w3.alloc (.cells #[.slice A1 ns.length c1, .slice A2 L.length c2] 31)) := (Below.refl _ _).alloc (Nat.le_refl _) _
      have B0 := hid (B0.out.below a1)
      have S0 := hid (then_ S0.out a1 S0.out.size)
      have HN := hid (HN.out.below a1)
      have HL := hid (HL.out.below a1)
      have v0 := B0.out.c0
      have v1 := B0.out.c1
      have K1 := hid (o1.below a1).pairs
      have K2 := hid (o2.below a1).pairs
      have Y8 := hid (BoxV.new w3 (.slice A1 ns.length c1) (.slice A2 L.length c2) 31 w3.heap.size rfl)
      clear hb a1 o1 o2 P1 P2
      go_wp2_with fail
      generalize hg8 : w3.heap.size = g8 at Y8 ⊢
      generalize hwa : w3.alloc _ = wa at K1 K2 Y8 B0 S0 HN HL v0 v1 ⊢
      clear hg8 hwa
      have HN3 := HN
      have HL3 := HL
      have B3 := B0
      have T3 := hid (Below.refl wa.heap.size wa)
      refine (toWindow_any _ _ ns ls _ HN.out HL.out HD.out.1 HD.out.2).mono ?_
      rintro e w4 ⟨q1, q2, rfl, ho1, ho2, hb⟩
      have T3 := hid (then_ T3.out hb T3.out.size)
      have B0 := hid (B3.out.below T3.out)
      have HN := hid (HN3.out.below T3.out)
      have HL := hid (HL3.out.below T3.out)
      have Z8 := hid (Y8.out.below T3.out)
      have R1 := hid (K1.out.below T3.out)
      have R2 := hid (K2.out.below T3.out)
      have v0 := B0.out.c0
      have v1 := B0.out.c1
      have z0 := Z8.out.c0
      have z1 := Z8.out.c1
      have sza := hb.size
      have lq1 := ho1.lt
      have lq2 := ho2.lt
      obtain ⟨g1, rfl, _, _, _⟩ := id ho1
      obtain ⟨g2, rfl, _, _, _⟩ := id ho2
      have Q1 := hid ho1
      have Q2 := hid ho2
      have lq1 := lq1 g1 rfl
      have lq2 := lq2 g2 rfl
      clear hb ho1 ho2
      have X0 := hid (BoxV.new w4 (.slice (some ⟨g1, 0, none⟩) ns.length ns.length) (.slice (some ⟨g2, 0, none⟩) ls.length ls.length) 31 w4.heap.size rfl)
      have a1 : Below w4.heap.size w4 (w4.alloc (.cells #[.slice (some ⟨g1, 0, none⟩) ns.length ns.length, .slice (some ⟨g2, 0, none⟩) ls.length ls.length] 31)) := (Below.refl _ _).alloc (Nat.le_refl _) _
      have T3 := hid (then_ T3.out a1 T3.out.size)
      have B0 := hid (B3.out.below T3.out)
      have HN := hid (HN3.out.below T3.out)
      have HL := hid (HL3.out.below T3.out)
      have Z8 := hid (Y8.out.below T3.out)
      have R1 := hid (K1.out.below T3.out)
      have R2 := hid (K2.out.below T3.out)
      have Q1 := hid (OwnPairs.below (C := 0) Q1.out a1)
      have Q2 := hid (OwnPairs.below (C := 0) Q2.out a1)
      have v0 := B0.out.c0
      have v1 := B0.out.c1
      have z0 := Z8.out.c0
      have z1 := Z8.out.c1
      have sz4 : w4.heap.size < (w4.alloc (.cells #[.slice (some ⟨g1, 0, none⟩) ns.length ns.length, .slice (some ⟨g2, 0, none⟩) ls.length ls.length] 31)).heap.size := by simp
      clear a1
      have y0 := X0.out.c0
      have y1 := X0.out.c1
      go_wp2_with fail
      generalize hg4 : w4.heap.size = g4 at X0 y0 y1 lq1 lq2 sz4 sza ⊢
      generalize hwb : w4.alloc _ = wb at T3 B0 HN HL Z8 R1 R2 Q1 Q2 X0 v0 v1 z0 z1 y0 y1 sz4 ⊢
      clear hg4 hwb
      refine (CI.out _ _ _ Q1.out.pairs Q2.out.pairs).mono ?_
      rintro e w5 ⟨u1, u2, rfl, o1, o2, hb⟩
      have T3 := hid (then_ T3.out hb T3.out.size)
      have B0 := hid (B3.out.below T3.out)
      have HN := hid (HN3.out.below T3.out)
      have HL := hid (HL3.out.below T3.out)
      have Z8 := hid (Y8.out.below T3.out)
      have R1 := hid (K1.out.below T3.out)
      have R2 := hid (K2.out.below T3.out)
      have Q1 := hid (OwnPairs.below (C := 0) Q1.out hb)
      have Q2 := hid (OwnPairs.below (C := 0) Q2.out hb)
      have X0 := hid (X0.out.below hb)
      have v0 := B0.out.c0
      have v1 := B0.out.c1
      have z0 := Z8.out.c0
      have z1 := Z8.out.c1
      have LU1 := hid o1.lt
      have LU2 := hid o2.lt
      have sz5 := hb.size
      obtain ⟨A5, c5, rfl⟩ := o1.form
      obtain ⟨A6, c6, rfl⟩ := o2.form
      have a1 : Below w5.heap.size w5 (w5.alloc (.cells #[.slice A5 ns.length c5, .slice A6 L.length c6] 31)) := (Below.refl _ _).alloc (Nat.le_refl _) _
      have T3 := hid (then_ T3.out a1 T3.out.size)
      have B0 := hid (B3.out.below T3.out)
      have HN := hid (HN3.out.below T3.out)
      have HL := hid (HL3.out.below T3.out)
      have Z8 := hid (Y8.out.below T3.out)
      have R1 := hid (K1.out.below T3.out)
      have R2 := hid (K2.out.below T3.out)
      have Q1 := hid (OwnPairs.below (C := 0) Q1.out a1)
      have Q2 := hid (OwnPairs.below (C := 0) Q2.out a1)
      have X0 := hid (X0.out.below a1)
      have v0 := B0.out.c0
      have v1 := B0.out.c1
      have z0 := Z8.out.c0
      have z1 := Z8.out.c1
      have G1 := hid (o1.below a1)
      have G2 := hid (o2.below a1)
      have G0 := hid (BoxV.new w5 (.slice A5 ns.length c5) (.slice A6 L.length c6) 31 w5.heap.size rfl)
      clear hb a1 o1 o2
      have y0 := X0.out.c0
      have y1 := X0.out.c1
      have s0 := G0.out.c0
      have s1 := G0.out.c1
      go_wp2_with fail
      generalize hg5 : w5.heap.size = g5 at G0 s0 s1 LU1 LU2 sz5 ⊢
      generalize hwc : w5.alloc _ = wc at T3 B0 HN HL Z8 R1 R2 Q1 Q2 X0 G0 G1 G2 v0 v1 z0 z1 y0 y1 s0 s1 ⊢
      clear hg5 hwc
      refine (eqWindow_same _ _ _ _ ns L _ G1.out.pairs G2.out.pairs R1.out R2.out).mono ?_
      rintro e w6 ⟨rfl, hb⟩
      have T3 := hid (then_ T3.out hb T3.out.size)
      have B0 := hid (B3.out.below T3.out)
      have HN := hid (HN3.out.below T3.out)
      have HL := hid (HL3.out.below T3.out)
      have Z8 := hid (Y8.out.below T3.out)
      have R1 := hid (K1.out.below T3.out)
      have R2 := hid (K2.out.below T3.out)
      have Q1 := hid (OwnPairs.below (C := 0) Q1.out hb)
      have Q2 := hid (OwnPairs.below (C := 0) Q2.out hb)
      have X0 := hid (X0.out.below hb)
      have G0 := hid (G0.out.below hb)
      have G1 := hid (G1.out.below hb)
      have G2 := hid (G2.out.below hb)
      have v0 := B0.out.c0
      have v1 := B0.out.c1
      have z0 := Z8.out.c0
      have z1 := Z8.out.c1
      clear hb
      have y0 := X0.out.c0
      have y1 := X0.out.c1
      have s0 := G0.out.c0
      have s1 := G0.out.c1
      go_wp2_with fail
      refine wh_start (S := (fun w' => w'.cell? ⟨w.heap.size, 0, none⟩ = some (.slice A ns.length c) ∧ w'.cell? ⟨w.heap.size, 1, none⟩ = some (.slice A' ls.length c') ∧ w'.cell? ⟨g4, 0, none⟩ = some (.slice (some ⟨g1, 0, none⟩) ns.length ns.length) ∧ w'.cell? ⟨g4, 1, none⟩ = some (.slice (some ⟨g2, 0, none⟩) ls.length ls.length))) (by kernel_rfl) ⟨v0, v1, y0, y1⟩ ?_
      refine wh_take (i := 0) (v := ?_) rfl (by kernel_rfl) (by kernel_rfl) (by kernel_rfl) (fun _ _ _ h => h) (by kernel_rfl) ?_ ?_
      rotate_left
      (focus (intro w hSw; (try dsimp only at hSw); go_simp; try with_reducible rfl))
      simp only [Act.put, List.setIfInBounds_toArray, List.set_cons_zero, List.set_cons_succ, List.getElem_toArray, List.getElem_cons_succ, List.getElem_cons_zero, Nat.reduceAdd]
      refine wh_take (i := 1) (v := ?_) rfl (by kernel_rfl) (by kernel_rfl) (by kernel_rfl) (fun _ _ _ h => h) (by kernel_rfl) ?_ ?_
      rotate_left
      (focus (intro w hSw; (try dsimp only at hSw); go_simp; try with_reducible rfl))
      simp only [Act.put, List.setIfInBounds_toArray, List.set_cons_zero, List.set_cons_succ, List.getElem_toArray, List.getElem_cons_succ, List.getElem_cons_zero, Nat.reduceAdd]
      refine wh_step (i := 2) rfl (by kernel_rfl) (fun K hK => ?_)
      go_simp
      refine (toWindow_any _ _ ns ls _ (by exact PairsAt.drew HN.out) (by exact PairsAt.drew HL.out) HD.out.1 HD.out.2).mono ?_
      rintro e w7 ⟨p3, p4, rfl, ho1, ho2, hb⟩
      have hb := then_ ((Below.refl _ _).drew) hb (Nat.le_refl _)
      have T3 := hid (then_ T3.out hb T3.out.size)
      have B0 := hid (B3.out.below T3.out)
      have HN := hid (HN3.out.below T3.out)
      have HL := hid (HL3.out.below T3.out)
      have Z8 := hid (Y8.out.below T3.out)
      have R1 := hid (K1.out.below T3.out)
      have R2 := hid (K2.out.below T3.out)
      have Q1 := hid (OwnPairs.below (C := 0) Q1.out hb)
      have Q2 := hid (OwnPairs.below (C := 0) Q2.out hb)
      have X0 := hid (X0.out.below hb)
      have G0 := hid (G0.out.below hb)
      have G1 := hid (G1.out.below hb)
      have G2 := hid (G2.out.below hb)
      have v0 := B0.out.c0
      have v1 := B0.out.c1
      have z0 := Z8.out.c0
      have z1 := Z8.out.c1
      have P3 := hid ho1.pairs
      have P4 := hid ho2.pairs
      clear hb ho1 ho2
      have y0 := X0.out.c0
      have y1 := X0.out.c1
      have s0 := G0.out.c0
      have s1 := G0.out.c1
      (try dsimp only)
      refine hK.out _ _ ⟨v0, v1, y0, y1⟩ ?_
      clear hK K
      (try simp only [Act.put, List.setIfInBounds_toArray, List.set_cons_zero, List.set_cons_succ, List.getElem_toArray, List.getElem_cons_succ, List.getElem_cons_zero, Nat.reduceAdd])
      refine wh_step (i := 3) rfl (by kernel_rfl) (fun K hK => ?_)
      go_simp
      refine (eqWindow_same _ _ _ _ ns ls _ Q1.out.pairs Q2.out.pairs P3.out P4.out).mono ?_
      rintro e w8 ⟨rfl, hb⟩
      have T3 := hid (then_ T3.out hb T3.out.size)
      have B0 := hid (B3.out.below T3.out)
      have HN := hid (HN3.out.below T3.out)
      have HL := hid (HL3.out.below T3.out)
      have Z8 := hid (Y8.out.below T3.out)
      have R1 := hid (K1.out.below T3.out)
      have R2 := hid (K2.out.below T3.out)
      have Q1 := hid (OwnPairs.below (C := 0) Q1.out hb)
      have Q2 := hid (OwnPairs.below (C := 0) Q2.out hb)
      have X0 := hid (X0.out.below hb)
      have G0 := hid (G0.out.below hb)
      have G1 := hid (G1.out.below hb)
      have G2 := hid (G2.out.below hb)
      have v0 := B0.out.c0
      have v1 := B0.out.c1
      have z0 := Z8.out.c0
      have z1 := Z8.out.c1
      clear hb
      have y0 := X0.out.c0
      have y1 := X0.out.c1
      have s0 := G0.out.c0
      have s1 := G0.out.c1
      (try dsimp only)
      refine hK.out _ _ ⟨v0, v1, y0, y1⟩ ?_
      clear hK K
      (try simp only [Act.put, List.setIfInBounds_toArray, List.set_cons_zero, List.set_cons_succ, List.getElem_toArray, List.getElem_cons_succ, List.getElem_cons_zero, Nat.reduceAdd])
      refine wh_take (i := 4) (v := ?_) rfl (by kernel_rfl) (by kernel_rfl) (by kernel_rfl) (fun _ _ _ h => h) (by kernel_rfl) ?_ ?_
      rotate_left
      (focus (intro w hSw; (try dsimp only at hSw); go_simp; try with_reducible rfl))
      simp only [Act.put, List.setIfInBounds_toArray, List.set_cons_zero, List.set_cons_succ, List.getElem_toArray, List.getElem_cons_succ, List.getElem_cons_zero, Nat.reduceAdd]
      refine wh_done (by kernel_rfl) ?_
      go_wp2_with fail
      refine (markWindow_all wa.heap.size _ _ ns ls _ _ Q1.out Q2.out (by omega) (by omega) T3.out.size).mono ?_
      rintro e w9 ⟨rfl, _, _, hb, hk⟩
      have G1 := hid (G1.out.other fun g e => hk g (G1.out.lt g e).2 (fun q => by have h1 := (LU1.out g e).1; have q := blk_eq q; omega) (fun q => by have h1 := (LU1.out g e).1; have q := blk_eq q; omega))
      have G2 := hid (G2.out.other fun g e => hk g (G2.out.lt g e).2 (fun q => by have h1 := (LU2.out g e).1; have q := blk_eq q; omega) (fun q => by have h1 := (LU2.out g e).1; have q := blk_eq q; omega))
      have G0 := hid (G0.out.other (hk _ G0.out.lt (fun q => by have q := blk_eq q; omega) (fun q => by have q := blk_eq q; omega)) hb.size)
      have T3 := hid (T3.out.trans hb)
      obtain ⟨q, hq⟩ : ∃ q : Int, q = 1 + 2 * (ns.length : Int) + 2 * (ls.length : Int) := ⟨_, rfl⟩
      have hq0 : 0 ≤ q := by omega
      rw [← hq]
      clear hq hb hk y0 y1 X0 Q1 Q2
      have B0 := hid (B3.out.below T3.out)
      have HN := hid (HN3.out.below T3.out)
      have HL := hid (HL3.out.below T3.out)
      have Z8 := hid (Y8.out.below T3.out)
      have R1 := hid (K1.out.below T3.out)
      have R2 := hid (K2.out.below T3.out)
      have v0 := B0.out.c0
      have v1 := B0.out.c1
      have z0 := Z8.out.c0
      have z1 := Z8.out.c1
      have s0 := G0.out.c0
      have s1 := G0.out.c1
      go_wp2_with fail
      refine (eqWindow_same _ _ _ _ ns L _ G1.out.pairs G2.out.pairs R1.out R2.out).mono ?_
      rintro e w10 ⟨rfl, hb⟩
      have T3 := hid (then_ T3.out hb T3.out.size)
      have B0 := hid (B3.out.below T3.out)
      have HN := hid (HN3.out.below T3.out)
      have HL := hid (HL3.out.below T3.out)
      have Z8 := hid (Y8.out.below T3.out)
      have R1 := hid (K1.out.below T3.out)
      have R2 := hid (K2.out.below T3.out)
      have G0 := hid (G0.out.below hb)
      have G1 := hid (G1.out.below hb)
      have G2 := hid (G2.out.below hb)
      have v0 := B0.out.c0
      have v1 := B0.out.c1
      have z0 := Z8.out.c0
      have z1 := Z8.out.c1
      clear hb
      have s0 := G0.out.c0
      have s1 := G0.out.c1
      go_wp2_with fail
      have sab : wa.heap.size ≤ wb.heap.size := by omega
      refine (markWindow_R wb.heap.size _ _ ns L _ _ G1.out G2.out (by omega) (by omega) (by have := G0.out.lt; omega)).mono ?_
      rintro e w11 ⟨rfl, m1, m2, hb, hk⟩
      have G0 := hid (G0.out.other (hk _ G0.out.lt (fun q => by have := (LU1.out _ q.symm).2; exact absurd this (Nat.lt_irrefl _)) (fun q => by have := (LU2.out _ q.symm).2; exact absurd this (Nat.lt_irrefl _))) hb.size)
      have M1 := hid m1
      have M2 := hid m2
      have T3 := hid (T3.out.trans (hb.mono sab))
      clear hb hk m1 m2 G1 G2
      have B0 := hid (B3.out.below T3.out)
      have HN := hid (HN3.out.below T3.out)
      have HL := hid (HL3.out.below T3.out)
      have Z8 := hid (Y8.out.below T3.out)
      have R1 := hid (K1.out.below T3.out)
      have R2 := hid (K2.out.below T3.out)
      have v0 := B0.out.c0
      have v1 := B0.out.c1
      have z0 := Z8.out.c0
      have z1 := Z8.out.c1
      have s0 := G0.out.c0
      have s1 := G0.out.c1
      go_wp2_with fail
      refine (heldWindow_all _ _ ns.length L.length _ _ M1.out.pairs M2.out.pairs HD.out.1 HX.out (by omega) (by omega)).mono ?_
      rintro e wh ⟨rfl, hb⟩
      have T3 := hid (then_ T3.out hb T3.out.size)
      have B0 := hid (B3.out.below T3.out)
      have HN := hid (HN3.out.below T3.out)
      have HL := hid (HL3.out.below T3.out)
      have Z8 := hid (Y8.out.below T3.out)
      have R1 := hid (K1.out.below T3.out)
      have R2 := hid (K2.out.below T3.out)
      have G0 := hid (G0.out.below hb)
      have M1 := hid (M1.out.below hb)
      have M2 := hid (M2.out.below hb)
      have v0 := B0.out.c0
      have v1 := B0.out.c1
      have z0 := Z8.out.c0
      have z1 := Z8.out.c1
      clear hb
      have s0 := G0.out.c0
      have s1 := G0.out.c1
      go_wp2_with fail
      refine (toWindow_any _ _ ns ls _ HN.out HL.out HD.out.1 HD.out.2).mono ?_
      rintro e w12 ⟨p1, p2, rfl, ho1, ho2, hb⟩
      have T3 := hid (then_ T3.out hb T3.out.size)
      have B0 := hid (B3.out.below T3.out)
      have HN := hid (HN3.out.below T3.out)
      have HL := hid (HL3.out.below T3.out)
      have Z8 := hid (Y8.out.below T3.out)
      have R1 := hid (K1.out.below T3.out)
      have R2 := hid (K2.out.below T3.out)
      have G0 := hid (G0.out.below hb)
      have M1 := hid (M1.out.below hb)
      have M2 := hid (M2.out.below hb)
      have v0 := B0.out.c0
      have v1 := B0.out.c1
      have z0 := Z8.out.c0
      have z1 := Z8.out.c1
      have P1 := hid ho1.pairs
      have P2 := hid ho2.pairs
      clear hb ho1 ho2
      have s0 := G0.out.c0
      have s1 := G0.out.c1
      go_wp2_with fail
      refine (CI.out _ _ _ P1.out P2.out).mono ?_
      rintro e w13 ⟨u3, u4, rfl, o1, o2, hb⟩
      have T3 := hid (then_ T3.out hb T3.out.size)
      have B0 := hid (B3.out.below T3.out)
      have HN := hid (HN3.out.below T3.out)
      have HL := hid (HL3.out.below T3.out)
      have Z8 := hid (Y8.out.below T3.out)
      have R1 := hid (K1.out.below T3.out)
      have R2 := hid (K2.out.below T3.out)
      have G0 := hid (G0.out.below hb)
      have M1 := hid (M1.out.below hb)
      have M2 := hid (M2.out.below hb)
      have v0 := B0.out.c0
      have v1 := B0.out.c1
      have z0 := Z8.out.c0
      have z1 := Z8.out.c1
      obtain ⟨A7, c7, rfl⟩ := o1.form
      obtain ⟨A8, c8, rfl⟩ := o2.form
      have a1 : Below w13.heap.size w13 (w13.alloc (.cells #[.slice A7 ns.length c7, .slice A8 L.length c8] 31)) := (Below.refl _ _).alloc (Nat.le_refl _) _
      have T3 := hid (then_ T3.out a1 T3.out.size)
      have B0 := hid (B3.out.below T3.out)
      have HN := hid (HN3.out.below T3.out)
      have HL := hid (HL3.out.below T3.out)
      have Z8 := hid (Y8.out.below T3.out)
      have R1 := hid (K1.out.below T3.out)
      have R2 := hid (K2.out.below T3.out)
      have G0 := hid (G0.out.below a1)
      have M1 := hid (M1.out.below a1)
      have M2 := hid (M2.out.below a1)
      have v0 := B0.out.c0
      have v1 := B0.out.c1
      have z0 := Z8.out.c0
      have z1 := Z8.out.c1
      have I1 := hid (o1.below a1).pairs
      have I2 := hid (o2.below a1).pairs
      have I0 := hid (BoxV.new w13 (.slice A7 ns.length c7) (.slice A8 L.length c8) 31 w13.heap.size rfl)
      clear hb a1 o1 o2 P1 P2
      have s0 := G0.out.c0
      have s1 := G0.out.c1
      have i0 := I0.out.c0
      have i1 := I0.out.c1
      go_wp2_with fail
      refine (eqWindow_same _ _ _ _ ns L _ I1.out I2.out R1.out R2.out).mono ?_
      rintro e w14 ⟨rfl, hb⟩
      have T3 := hid (then_ T3.out hb T3.out.size)
      have B0 := hid (B3.out.below T3.out)
      have HN := hid (HN3.out.below T3.out)
      have HL := hid (HL3.out.below T3.out)
      have Z8 := hid (Y8.out.below T3.out)
      have R1 := hid (K1.out.below T3.out)
      have R2 := hid (K2.out.below T3.out)
      have G0 := hid (G0.out.below hb)
      have M1 := hid (M1.out.below hb)
      have M2 := hid (M2.out.below hb)
      have v0 := B0.out.c0
      have v1 := B0.out.c1
      have z0 := Z8.out.c0
      have z1 := Z8.out.c1
      clear hb i0 i1 I0 I1 I2
      have s0 := G0.out.c0
      have s1 := G0.out.c1
      go_wp2_with fail
      refine (heldWindow_all _ _ ns.length L.length _ _ M1.out.pairs M2.out.pairs HD.out.1 HX.out (by omega) (by omega)).mono ?_
      rintro e wh2 ⟨rfl, hb⟩
      have T3 := hid (then_ T3.out hb T3.out.size)
      have B0 := hid (B3.out.below T3.out)
      have HN := hid (HN3.out.below T3.out)
      have HL := hid (HL3.out.below T3.out)
      have Z8 := hid (Y8.out.below T3.out)
      have R1 := hid (K1.out.below T3.out)
      have R2 := hid (K2.out.below T3.out)
      have G0 := hid (G0.out.below hb)
      have M1 := hid (M1.out.below hb)
      have M2 := hid (M2.out.below hb)
      have v0 := B0.out.c0
      have v1 := B0.out.c1
      have z0 := Z8.out.c0
      have z1 := Z8.out.c1
      clear hb
      go_wp2
      go_ret
      exact ⟨rfl, S0.out.trans (T3.out.mono S0.out.size)⟩
theorem FnExactDropLead_walk (w : World) (vn vl : Value) (ns ls : List (Int × Int)) (hn : PairsAt w vn ns) (hl : PairsAt w vl ls) (x1 : Int) (_ : (Lit.int .i64 x1).wf = true) : Calls Try.prog 6 #[.agg #[vn, vl], .int .i64 x1] w fun e w' => e = .returned (.bool true) ∧ Below w.heap.size w w' := by
  have s0 : Below w.heap.size w (w.alloc (.cells #[vn, vl] 25)) := (Below.refl _ _).alloc (Nat.le_refl _) _
  have HN := hid (hn.below s0)
  have HL := hid (hl.below s0)
  have B0 := hid (BoxV.new w vn vl 25 w.heap.size rfl)
  have S0 := hid s0
  clear s0
  obtain ⟨A, c, rfl, _, _, _⟩ := id hn
  obtain ⟨A', c', rfl, _, _, _⟩ := id hl
  clear hn hl
  have v0 := B0.out.c0
  have v1 := B0.out.c1
  by_cases h : szW 1048576 ns.length ls.length < 0
  · have H := hid h
    clear h
    go_enter Try.func6, Try.ntmps6
    go_wp2_with fail
    refine (szWindow_any _ _ ns ls _ _ HN.out HL.out (by omega) (by omega)).mono ?_
    rintro e w1 ⟨rfl, hb1⟩
    have h := H.out
    go_wp2
    go_ret
    exact ⟨rfl, then_ S0.out hb1 S0.out.size⟩
  · have hd : ns.length ≤ 1048576 ∧ ls.length ≤ 1048576 := by unfold szW szF at h; split at h <;> (try split at h) <;> omega
    have HD := hid hd
    have H := hid (show 0 ≤ szW 1048576 ns.length ls.length by omega)
    have HX := hid (show (dlL ns ls x1).length ≤ 1048576 from dlL_len x1 hd.2)
    have CS := hid (fun vn vl W (p : PairsAt W vn ns) (q : PairsAt W vl ls) => sDrop_any vn vl ns ls x1 W p q (by omega) (by omega))
    have CI := hid (fun vn vl W (p : PairsAt W vn ns) (q : PairsAt W vl ls) => iDrop_any vn vl ns ls x1 W p q (by omega) (by omega))
    clear h hd
    generalize dlL ns ls x1 = L at CS CI HX
    generalize isLead ns ls x1 = ok at CS CI
    cases ok
    all_goals
      go_enter Try.func6, Try.ntmps6
      go_wp2_with fail
      refine (szWindow_any _ _ ns ls _ _ HN.out HL.out (by omega) (by omega)).mono ?_
      rintro e w1 ⟨rfl, hb⟩
      have B0 := hid (B0.out.below hb)
      have S0 := hid (then_ S0.out hb S0.out.size)
      have HN := hid (HN.out.below hb)
      have HL := hid (HL.out.below hb)
      have v0 := B0.out.c0
      have v1 := B0.out.c1
      clear hb
      have h := H.out
      go_wp2_with fail
      refine (toWindow_any _ _ ns ls _ HN.out HL.out HD.out.1 HD.out.2).mono ?_
      rintro e w2 ⟨p1, p2, rfl, ho1, ho2, hb⟩
      have B0 := hid (B0.out.below hb)
      have S0 := hid (then_ S0.out hb S0.out.size)
      have HN := hid (HN.out.below hb)
      have HL := hid (HL.out.below hb)
      have v0 := B0.out.c0
      have v1 := B0.out.c1
      have P1 := hid ho1.pairs
      have P2 := hid ho2.pairs
      clear hb ho1 ho2
      go_wp2_with fail
      refine (CS.out _ _ _ P1.out P2.out).mono ?_
      rintro e w3 ⟨p1, p2, rfl, o1, o2, hb⟩
      have B0 := hid (B0.out.below hb)
      have S0 := hid (then_ S0.out hb S0.out.size)
      have HN := hid (HN.out.below hb)
      have HL := hid (HL.out.below hb)
      have v0 := B0.out.c0
      have v1 := B0.out.c1
      obtain ⟨A1, c1, rfl⟩ := o1.form
      obtain ⟨A2, c2, rfl⟩ := o2.form
      have a1 : Below w3.heap.size w3 (w3.alloc (.cells #[.slice A1 ns.length c1, .slice A2 L.length c2] 31)) := (Below.refl _ _).alloc (Nat.le_refl _) _
      have B0 := hid (B0.out.below a1)
      have S0 := hid (then_ S0.out a1 S0.out.size)
      have HN := hid (HN.out.below a1)
      have HL := hid (HL.out.below a1)
      have v0 := B0.out.c0
      have v1 := B0.out.c1
      have K1 := hid (o1.below a1).pairs
      have K2 := hid (o2.below a1).pairs
      have Y8 := hid (BoxV.new w3 (.slice A1 ns.length c1) (.slice A2 L.length c2) 31 w3.heap.size rfl)
      clear hb a1 o1 o2 P1 P2
      go_wp2_with fail
      generalize hg8 : w3.heap.size = g8 at Y8 ⊢
      generalize hwa : w3.alloc _ = wa at K1 K2 Y8 B0 S0 HN HL v0 v1 ⊢
      clear hg8 hwa
      have HN3 := HN
      have HL3 := HL
      have B3 := B0
      have T3 := hid (Below.refl wa.heap.size wa)
      refine (toWindow_any _ _ ns ls _ HN.out HL.out HD.out.1 HD.out.2).mono ?_
      rintro e w4 ⟨q1, q2, rfl, ho1, ho2, hb⟩
      have T3 := hid (then_ T3.out hb T3.out.size)
      have B0 := hid (B3.out.below T3.out)
      have HN := hid (HN3.out.below T3.out)
      have HL := hid (HL3.out.below T3.out)
      have Z8 := hid (Y8.out.below T3.out)
      have R1 := hid (K1.out.below T3.out)
      have R2 := hid (K2.out.below T3.out)
      have v0 := B0.out.c0
      have v1 := B0.out.c1
      have z0 := Z8.out.c0
      have z1 := Z8.out.c1
      have sza := hb.size
      have lq1 := ho1.lt
      have lq2 := ho2.lt
      obtain ⟨g1, rfl, _, _, _⟩ := id ho1
      obtain ⟨g2, rfl, _, _, _⟩ := id ho2
      have Q1 := hid ho1
      have Q2 := hid ho2
      have lq1 := lq1 g1 rfl
      have lq2 := lq2 g2 rfl
      clear hb ho1 ho2
      have X0 := hid (BoxV.new w4 (.slice (some ⟨g1, 0, none⟩) ns.length ns.length) (.slice (some ⟨g2, 0, none⟩) ls.length ls.length) 31 w4.heap.size rfl)
      have a1 : Below w4.heap.size w4 (w4.alloc (.cells #[.slice (some ⟨g1, 0, none⟩) ns.length ns.length, .slice (some ⟨g2, 0, none⟩) ls.length ls.length] 31)) := (Below.refl _ _).alloc (Nat.le_refl _) _
      have T3 := hid (then_ T3.out a1 T3.out.size)
      have B0 := hid (B3.out.below T3.out)
      have HN := hid (HN3.out.below T3.out)
      have HL := hid (HL3.out.below T3.out)
      have Z8 := hid (Y8.out.below T3.out)
      have R1 := hid (K1.out.below T3.out)
      have R2 := hid (K2.out.below T3.out)
      have Q1 := hid (OwnPairs.below (C := 0) Q1.out a1)
      have Q2 := hid (OwnPairs.below (C := 0) Q2.out a1)
      have v0 := B0.out.c0
      have v1 := B0.out.c1
      have z0 := Z8.out.c0
      have z1 := Z8.out.c1
      have sz4 : w4.heap.size < (w4.alloc (.cells #[.slice (some ⟨g1, 0, none⟩) ns.length ns.length, .slice (some ⟨g2, 0, none⟩) ls.length ls.length] 31)).heap.size := by simp
      clear a1
      have y0 := X0.out.c0
      have y1 := X0.out.c1
      go_wp2_with fail
      generalize hg4 : w4.heap.size = g4 at X0 y0 y1 lq1 lq2 sz4 sza ⊢
      generalize hwb : w4.alloc _ = wb at T3 B0 HN HL Z8 R1 R2 Q1 Q2 X0 v0 v1 z0 z1 y0 y1 sz4 ⊢
      clear hg4 hwb
      refine (CI.out _ _ _ Q1.out.pairs Q2.out.pairs).mono ?_
      rintro e w5 ⟨u1, u2, rfl, o1, o2, hb⟩
      have T3 := hid (then_ T3.out hb T3.out.size)
      have B0 := hid (B3.out.below T3.out)
      have HN := hid (HN3.out.below T3.out)
      have HL := hid (HL3.out.below T3.out)
      have Z8 := hid (Y8.out.below T3.out)
      have R1 := hid (K1.out.below T3.out)
      have R2 := hid (K2.out.below T3.out)
      have Q1 := hid (OwnPairs.below (C := 0) Q1.out hb)
      have Q2 := hid (OwnPairs.below (C := 0) Q2.out hb)
      have X0 := hid (X0.out.below hb)
      have v0 := B0.out.c0
      have v1 := B0.out.c1
      have z0 := Z8.out.c0
      have z1 := Z8.out.c1
      have LU1 := hid o1.lt
      have LU2 := hid o2.lt
      have sz5 := hb.size
      obtain ⟨A5, c5, rfl⟩ := o1.form
      obtain ⟨A6, c6, rfl⟩ := o2.form
      have a1 : Below w5.heap.size w5 (w5.alloc (.cells #[.slice A5 ns.length c5, .slice A6 L.length c6] 31)) := (Below.refl _ _).alloc (Nat.le_refl _) _
      have T3 := hid (then_ T3.out a1 T3.out.size)
      have B0 := hid (B3.out.below T3.out)
      have HN := hid (HN3.out.below T3.out)
      have HL := hid (HL3.out.below T3.out)
      have Z8 := hid (Y8.out.below T3.out)
      have R1 := hid (K1.out.below T3.out)
      have R2 := hid (K2.out.below T3.out)
      have Q1 := hid (OwnPairs.below (C := 0) Q1.out a1)
      have Q2 := hid (OwnPairs.below (C := 0) Q2.out a1)
      have X0 := hid (X0.out.below a1)
      have v0 := B0.out.c0
      have v1 := B0.out.c1
      have z0 := Z8.out.c0
      have z1 := Z8.out.c1
      have G1 := hid (o1.below a1)
      have G2 := hid (o2.below a1)
      have G0 := hid (BoxV.new w5 (.slice A5 ns.length c5) (.slice A6 L.length c6) 31 w5.heap.size rfl)
      clear hb a1 o1 o2
      have y0 := X0.out.c0
      have y1 := X0.out.c1
      have s0 := G0.out.c0
      have s1 := G0.out.c1
      go_wp2_with fail
      generalize hg5 : w5.heap.size = g5 at G0 s0 s1 LU1 LU2 sz5 ⊢
      generalize hwc : w5.alloc _ = wc at T3 B0 HN HL Z8 R1 R2 Q1 Q2 X0 G0 G1 G2 v0 v1 z0 z1 y0 y1 s0 s1 ⊢
      clear hg5 hwc
      refine (eqWindow_same _ _ _ _ ns L _ G1.out.pairs G2.out.pairs R1.out R2.out).mono ?_
      rintro e w6 ⟨rfl, hb⟩
      have T3 := hid (then_ T3.out hb T3.out.size)
      have B0 := hid (B3.out.below T3.out)
      have HN := hid (HN3.out.below T3.out)
      have HL := hid (HL3.out.below T3.out)
      have Z8 := hid (Y8.out.below T3.out)
      have R1 := hid (K1.out.below T3.out)
      have R2 := hid (K2.out.below T3.out)
      have Q1 := hid (OwnPairs.below (C := 0) Q1.out hb)
      have Q2 := hid (OwnPairs.below (C := 0) Q2.out hb)
      have X0 := hid (X0.out.below hb)
      have G0 := hid (G0.out.below hb)
      have G1 := hid (G1.out.below hb)
      have G2 := hid (G2.out.below hb)
      have v0 := B0.out.c0
      have v1 := B0.out.c1
      have z0 := Z8.out.c0
      have z1 := Z8.out.c1
      clear hb
      have y0 := X0.out.c0
      have y1 := X0.out.c1
      have s0 := G0.out.c0
      have s1 := G0.out.c1
      go_wp2_with fail
      refine wh_start (S := (fun w' => w'.cell? ⟨w.heap.size, 0, none⟩ = some (.slice A ns.length c) ∧ w'.cell? ⟨w.heap.size, 1, none⟩ = some (.slice A' ls.length c') ∧ w'.cell? ⟨g4, 0, none⟩ = some (.slice (some ⟨g1, 0, none⟩) ns.length ns.length) ∧ w'.cell? ⟨g4, 1, none⟩ = some (.slice (some ⟨g2, 0, none⟩) ls.length ls.length))) (by kernel_rfl) ⟨v0, v1, y0, y1⟩ ?_
      refine wh_take (i := 0) (v := ?_) rfl (by kernel_rfl) (by kernel_rfl) (by kernel_rfl) (fun _ _ _ h => h) (by kernel_rfl) ?_ ?_
      rotate_left
      (focus (intro w hSw; (try dsimp only at hSw); go_simp; try with_reducible rfl))
      simp only [Act.put, List.setIfInBounds_toArray, List.set_cons_zero, List.set_cons_succ, List.getElem_toArray, List.getElem_cons_succ, List.getElem_cons_zero, Nat.reduceAdd]
      refine wh_take (i := 1) (v := ?_) rfl (by kernel_rfl) (by kernel_rfl) (by kernel_rfl) (fun _ _ _ h => h) (by kernel_rfl) ?_ ?_
      rotate_left
      (focus (intro w hSw; (try dsimp only at hSw); go_simp; try with_reducible rfl))
      simp only [Act.put, List.setIfInBounds_toArray, List.set_cons_zero, List.set_cons_succ, List.getElem_toArray, List.getElem_cons_succ, List.getElem_cons_zero, Nat.reduceAdd]
      refine wh_step (i := 2) rfl (by kernel_rfl) (fun K hK => ?_)
      go_simp
      refine (toWindow_any _ _ ns ls _ (by exact PairsAt.drew HN.out) (by exact PairsAt.drew HL.out) HD.out.1 HD.out.2).mono ?_
      rintro e w7 ⟨p3, p4, rfl, ho1, ho2, hb⟩
      have hb := then_ ((Below.refl _ _).drew) hb (Nat.le_refl _)
      have T3 := hid (then_ T3.out hb T3.out.size)
      have B0 := hid (B3.out.below T3.out)
      have HN := hid (HN3.out.below T3.out)
      have HL := hid (HL3.out.below T3.out)
      have Z8 := hid (Y8.out.below T3.out)
      have R1 := hid (K1.out.below T3.out)
      have R2 := hid (K2.out.below T3.out)
      have Q1 := hid (OwnPairs.below (C := 0) Q1.out hb)
      have Q2 := hid (OwnPairs.below (C := 0) Q2.out hb)
      have X0 := hid (X0.out.below hb)
      have G0 := hid (G0.out.below hb)
      have G1 := hid (G1.out.below hb)
      have G2 := hid (G2.out.below hb)
      have v0 := B0.out.c0
      have v1 := B0.out.c1
      have z0 := Z8.out.c0
      have z1 := Z8.out.c1
      have P3 := hid ho1.pairs
      have P4 := hid ho2.pairs
      clear hb ho1 ho2
      have y0 := X0.out.c0
      have y1 := X0.out.c1
      have s0 := G0.out.c0
      have s1 := G0.out.c1
      (try dsimp only)
      refine hK.out _ _ ⟨v0, v1, y0, y1⟩ ?_
      clear hK K
      (try simp only [Act.put, List.setIfInBounds_toArray, List.set_cons_zero, List.set_cons_succ, List.getElem_toArray, List.getElem_cons_succ, List.getElem_cons_zero, Nat.reduceAdd])
      refine wh_step (i := 3) rfl (by kernel_rfl) (fun K hK => ?_)
      go_simp
      refine (eqWindow_same _ _ _ _ ns ls _ Q1.out.pairs Q2.out.pairs P3.out P4.out).mono ?_
      rintro e w8 ⟨rfl, hb⟩
      have T3 := hid (then_ T3.out hb T3.out.size)
      have B0 := hid (B3.out.below T3.out)
      have HN := hid (HN3.out.below T3.out)
      have HL := hid (HL3.out.below T3.out)
      have Z8 := hid (Y8.out.below T3.out)
      have R1 := hid (K1.out.below T3.out)
      have R2 := hid (K2.out.below T3.out)
      have Q1 := hid (OwnPairs.below (C := 0) Q1.out hb)
      have Q2 := hid (OwnPairs.below (C := 0) Q2.out hb)
      have X0 := hid (X0.out.below hb)
      have G0 := hid (G0.out.below hb)
      have G1 := hid (G1.out.below hb)
      have G2 := hid (G2.out.below hb)
      have v0 := B0.out.c0
      have v1 := B0.out.c1
      have z0 := Z8.out.c0
      have z1 := Z8.out.c1
      clear hb
      have y0 := X0.out.c0
      have y1 := X0.out.c1
      have s0 := G0.out.c0
      have s1 := G0.out.c1
      (try dsimp only)
      refine hK.out _ _ ⟨v0, v1, y0, y1⟩ ?_
      clear hK K
      (try simp only [Act.put, List.setIfInBounds_toArray, List.set_cons_zero, List.set_cons_succ, List.getElem_toArray, List.getElem_cons_succ, List.getElem_cons_zero, Nat.reduceAdd])
      refine wh_take (i := 4) (v := ?_) rfl (by kernel_rfl) (by kernel_rfl) (by kernel_rfl) (fun _ _ _ h => h) (by kernel_rfl) ?_ ?_
      rotate_left
      (focus (intro w hSw; (try dsimp only at hSw); go_simp; try with_reducible rfl))
      simp only [Act.put, List.setIfInBounds_toArray, List.set_cons_zero, List.set_cons_succ, List.getElem_toArray, List.getElem_cons_succ, List.getElem_cons_zero, Nat.reduceAdd]
      refine wh_done (by kernel_rfl) ?_
      go_wp2_with fail
      refine (markWindow_all wa.heap.size _ _ ns ls _ _ Q1.out Q2.out (by omega) (by omega) T3.out.size).mono ?_
      rintro e w9 ⟨rfl, _, _, hb, hk⟩
      have G1 := hid (G1.out.other fun g e => hk g (G1.out.lt g e).2 (fun q => by have h1 := (LU1.out g e).1; have q := blk_eq q; omega) (fun q => by have h1 := (LU1.out g e).1; have q := blk_eq q; omega))
      have G2 := hid (G2.out.other fun g e => hk g (G2.out.lt g e).2 (fun q => by have h1 := (LU2.out g e).1; have q := blk_eq q; omega) (fun q => by have h1 := (LU2.out g e).1; have q := blk_eq q; omega))
      have G0 := hid (G0.out.other (hk _ G0.out.lt (fun q => by have q := blk_eq q; omega) (fun q => by have q := blk_eq q; omega)) hb.size)
      have T3 := hid (T3.out.trans hb)
      obtain ⟨q, hq⟩ : ∃ q : Int, q = 1 + 2 * (ns.length : Int) + 2 * (ls.length : Int) := ⟨_, rfl⟩
      have hq0 : 0 ≤ q := by omega
      rw [← hq]
      clear hq hb hk y0 y1 X0 Q1 Q2
      have B0 := hid (B3.out.below T3.out)
      have HN := hid (HN3.out.below T3.out)
      have HL := hid (HL3.out.below T3.out)
      have Z8 := hid (Y8.out.below T3.out)
      have R1 := hid (K1.out.below T3.out)
      have R2 := hid (K2.out.below T3.out)
      have v0 := B0.out.c0
      have v1 := B0.out.c1
      have z0 := Z8.out.c0
      have z1 := Z8.out.c1
      have s0 := G0.out.c0
      have s1 := G0.out.c1
      go_wp2_with fail
      refine (eqWindow_same _ _ _ _ ns L _ G1.out.pairs G2.out.pairs R1.out R2.out).mono ?_
      rintro e w10 ⟨rfl, hb⟩
      have T3 := hid (then_ T3.out hb T3.out.size)
      have B0 := hid (B3.out.below T3.out)
      have HN := hid (HN3.out.below T3.out)
      have HL := hid (HL3.out.below T3.out)
      have Z8 := hid (Y8.out.below T3.out)
      have R1 := hid (K1.out.below T3.out)
      have R2 := hid (K2.out.below T3.out)
      have G0 := hid (G0.out.below hb)
      have G1 := hid (G1.out.below hb)
      have G2 := hid (G2.out.below hb)
      have v0 := B0.out.c0
      have v1 := B0.out.c1
      have z0 := Z8.out.c0
      have z1 := Z8.out.c1
      clear hb
      have s0 := G0.out.c0
      have s1 := G0.out.c1
      go_wp2_with fail
      have sab : wa.heap.size ≤ wb.heap.size := by omega
      refine (markWindow_R wb.heap.size _ _ ns L _ _ G1.out G2.out (by omega) (by omega) (by have := G0.out.lt; omega)).mono ?_
      rintro e w11 ⟨rfl, m1, m2, hb, hk⟩
      have G0 := hid (G0.out.other (hk _ G0.out.lt (fun q => by have := (LU1.out _ q.symm).2; exact absurd this (Nat.lt_irrefl _)) (fun q => by have := (LU2.out _ q.symm).2; exact absurd this (Nat.lt_irrefl _))) hb.size)
      have M1 := hid m1
      have M2 := hid m2
      have T3 := hid (T3.out.trans (hb.mono sab))
      clear hb hk m1 m2 G1 G2
      have B0 := hid (B3.out.below T3.out)
      have HN := hid (HN3.out.below T3.out)
      have HL := hid (HL3.out.below T3.out)
      have Z8 := hid (Y8.out.below T3.out)
      have R1 := hid (K1.out.below T3.out)
      have R2 := hid (K2.out.below T3.out)
      have v0 := B0.out.c0
      have v1 := B0.out.c1
      have z0 := Z8.out.c0
      have z1 := Z8.out.c1
      have s0 := G0.out.c0
      have s1 := G0.out.c1
      go_wp2_with fail
      refine (heldWindow_all _ _ ns.length L.length _ _ M1.out.pairs M2.out.pairs HD.out.1 HX.out (by omega) (by omega)).mono ?_
      rintro e wh ⟨rfl, hb⟩
      have T3 := hid (then_ T3.out hb T3.out.size)
      have B0 := hid (B3.out.below T3.out)
      have HN := hid (HN3.out.below T3.out)
      have HL := hid (HL3.out.below T3.out)
      have Z8 := hid (Y8.out.below T3.out)
      have R1 := hid (K1.out.below T3.out)
      have R2 := hid (K2.out.below T3.out)
      have G0 := hid (G0.out.below hb)
      have M1 := hid (M1.out.below hb)
      have M2 := hid (M2.out.below hb)
      have v0 := B0.out.c0
      have v1 := B0.out.c1
      have z0 := Z8.out.c0
      have z1 := Z8.out.c1
      clear hb
      have s0 := G0.out.c0
      have s1 := G0.out.c1
      go_wp2_with fail
      refine (toWindow_any _ _ ns ls _ HN.out HL.out HD.out.1 HD.out.2).mono ?_
      rintro e w12 ⟨p1, p2, rfl, ho1, ho2, hb⟩
      have T3 := hid (then_ T3.out hb T3.out.size)
      have B0 := hid (B3.out.below T3.out)
      have HN := hid (HN3.out.below T3.out)
      have HL := hid (HL3.out.below T3.out)
      have Z8 := hid (Y8.out.below T3.out)
      have R1 := hid (K1.out.below T3.out)
      have R2 := hid (K2.out.below T3.out)
      have G0 := hid (G0.out.below hb)
      have M1 := hid (M1.out.below hb)
      have M2 := hid (M2.out.below hb)
      have v0 := B0.out.c0
      have v1 := B0.out.c1
      have z0 := Z8.out.c0
      have z1 := Z8.out.c1
      have P1 := hid ho1.pairs
      have P2 := hid ho2.pairs
      clear hb ho1 ho2
      have s0 := G0.out.c0
      have s1 := G0.out.c1
      go_wp2_with fail
      refine (CI.out _ _ _ P1.out P2.out).mono ?_
      rintro e w13 ⟨u3, u4, rfl, o1, o2, hb⟩
      have T3 := hid (then_ T3.out hb T3.out.size)
      have B0 := hid (B3.out.below T3.out)
      have HN := hid (HN3.out.below T3.out)
      have HL := hid (HL3.out.below T3.out)
      have Z8 := hid (Y8.out.below T3.out)
      have R1 := hid (K1.out.below T3.out)
      have R2 := hid (K2.out.below T3.out)
      have G0 := hid (G0.out.below hb)
      have M1 := hid (M1.out.below hb)
      have M2 := hid (M2.out.below hb)
      have v0 := B0.out.c0
      have v1 := B0.out.c1
      have z0 := Z8.out.c0
      have z1 := Z8.out.c1
      obtain ⟨A7, c7, rfl⟩ := o1.form
      obtain ⟨A8, c8, rfl⟩ := o2.form
      have a1 : Below w13.heap.size w13 (w13.alloc (.cells #[.slice A7 ns.length c7, .slice A8 L.length c8] 31)) := (Below.refl _ _).alloc (Nat.le_refl _) _
      have T3 := hid (then_ T3.out a1 T3.out.size)
      have B0 := hid (B3.out.below T3.out)
      have HN := hid (HN3.out.below T3.out)
      have HL := hid (HL3.out.below T3.out)
      have Z8 := hid (Y8.out.below T3.out)
      have R1 := hid (K1.out.below T3.out)
      have R2 := hid (K2.out.below T3.out)
      have G0 := hid (G0.out.below a1)
      have M1 := hid (M1.out.below a1)
      have M2 := hid (M2.out.below a1)
      have v0 := B0.out.c0
      have v1 := B0.out.c1
      have z0 := Z8.out.c0
      have z1 := Z8.out.c1
      have I1 := hid (o1.below a1).pairs
      have I2 := hid (o2.below a1).pairs
      have I0 := hid (BoxV.new w13 (.slice A7 ns.length c7) (.slice A8 L.length c8) 31 w13.heap.size rfl)
      clear hb a1 o1 o2 P1 P2
      have s0 := G0.out.c0
      have s1 := G0.out.c1
      have i0 := I0.out.c0
      have i1 := I0.out.c1
      go_wp2_with fail
      refine (eqWindow_same _ _ _ _ ns L _ I1.out I2.out R1.out R2.out).mono ?_
      rintro e w14 ⟨rfl, hb⟩
      have T3 := hid (then_ T3.out hb T3.out.size)
      have B0 := hid (B3.out.below T3.out)
      have HN := hid (HN3.out.below T3.out)
      have HL := hid (HL3.out.below T3.out)
      have Z8 := hid (Y8.out.below T3.out)
      have R1 := hid (K1.out.below T3.out)
      have R2 := hid (K2.out.below T3.out)
      have G0 := hid (G0.out.below hb)
      have M1 := hid (M1.out.below hb)
      have M2 := hid (M2.out.below hb)
      have v0 := B0.out.c0
      have v1 := B0.out.c1
      have z0 := Z8.out.c0
      have z1 := Z8.out.c1
      clear hb i0 i1 I0 I1 I2
      have s0 := G0.out.c0
      have s1 := G0.out.c1
      go_wp2_with fail
      refine (heldWindow_all _ _ ns.length L.length _ _ M1.out.pairs M2.out.pairs HD.out.1 HX.out (by omega) (by omega)).mono ?_
      rintro e wh2 ⟨rfl, hb⟩
      have T3 := hid (then_ T3.out hb T3.out.size)
      have B0 := hid (B3.out.below T3.out)
      have HN := hid (HN3.out.below T3.out)
      have HL := hid (HL3.out.below T3.out)
      have Z8 := hid (Y8.out.below T3.out)
      have R1 := hid (K1.out.below T3.out)
      have R2 := hid (K2.out.below T3.out)
      have G0 := hid (G0.out.below hb)
      have M1 := hid (M1.out.below hb)
      have M2 := hid (M2.out.below hb)
      have v0 := B0.out.c0
      have v1 := B0.out.c1
      have z0 := Z8.out.c0
      have z1 := Z8.out.c1
      clear hb
      go_wp2
      go_ret
      exact ⟨rfl, S0.out.trans (T3.out.mono S0.out.size)⟩
end Go.Proofs.Ytmkgdilabpehlaa

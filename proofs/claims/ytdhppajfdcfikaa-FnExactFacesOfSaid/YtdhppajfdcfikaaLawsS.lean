/- The walk of the law FnExactFacesOf: it returns true. No condition. -/
import Derived.Test.YtdhppajfdcfikaaMarkSS
import Derived.Test.YtdhppajfdcfikaaHeld
namespace Go.Proofs.Ytdhppajfdcfikaa
open Go.ChangeShapes Go.WideShapes Go.ChangeAt Go.RowKit
set_option maxHeartbeats 2000000
set_option linter.unusedSimpArgs false
set_option linter.unusedVariables false
theorem FnExactFacesOf_walk (w : World) (vn vl : Value) (ns ls : List (Int × Int)) (hn : PairsAt w vn ns) (hl : PairsAt w vl ls) : Calls Try.prog 9 #[.agg #[vn, vl]] w fun e w' => e = .returned (.bool true) ∧ Below w.heap.size w w' := by
  have s0 : Below w.heap.size w (w.alloc (.cells #[vn, vl] 25)) := (Below.refl _ _).alloc (Nat.le_refl _) _
  have HN := hid (hn.below s0)
  have HL := hid (hl.below s0)
  have B0 := hid (BoxV.new w vn vl 25 w.heap.size rfl)
  have S0 := hid s0
  clear s0
  obtain ⟨A, c, rfl, _, _, _⟩ := id hn
  obtain ⟨A', c', rfl, _, _, _⟩ := id hl
  clear hn hl
  have v0 := B0.out.c0
  have v1 := B0.out.c1
  by_cases h : szW 1048576 ns.length ls.length < 0
  · have H := hid h
    clear h
    go_enter Try.func9, Try.ntmps9
    go_wp2_with fail
    refine (szWindow_any _ _ ns ls _ _ HN.out HL.out (by omega) (by omega)).mono ?_
    rintro e w1 ⟨rfl, hb1⟩
    have h := H.out
    go_wp2
    go_ret
    exact ⟨rfl, then_ S0.out hb1 S0.out.size⟩
  · have hd : ns.length ≤ 1048576 ∧ ls.length ≤ 1048576 := by unfold szW szF at h; split at h <;> (try split at h) <;> omega
    have hx : (facesF ns ls).length ≤ 1000 := Nat.le_trans (faces_len ns ls) (by omega)
    have FT := hid (faces_tot ns ls)
    have FT2 : tot (facesF ns ls) ≤ 1600 := FT.out
    clear FT2
    have HX := hid hx
    have HD := hid hd
    have H := hid (show 0 ≤ szW 1048576 ns.length ls.length by omega)
    clear h hd
    go_enter Try.func9, Try.ntmps9
    go_wp2_with fail
    refine (szWindow_any _ _ ns ls _ _ HN.out HL.out (by omega) (by omega)).mono ?_
    rintro e w1 ⟨rfl, hb⟩
    have B0 := hid (B0.out.below hb)
    have S0 := hid (then_ S0.out hb S0.out.size)
    have HN := hid (HN.out.below hb)
    have HL := hid (HL.out.below hb)
    have v0 := B0.out.c0
    have v1 := B0.out.c1
    clear hb
    have h := H.out
    go_wp2_with fail
    refine (toWindow_any _ _ ns ls _ HN.out HL.out HD.out.1 HD.out.2).mono ?_
    rintro e w2 ⟨p1, p2, rfl, ho1, ho2, hb⟩
    have B0 := hid (B0.out.below hb)
    have S0 := hid (then_ S0.out hb S0.out.size)
    have HN := hid (HN.out.below hb)
    have HL := hid (HL.out.below hb)
    have v0 := B0.out.c0
    have v1 := B0.out.c1
    have P1 := hid ho1.pairs
    have P2 := hid ho2.pairs
    clear hb ho1 ho2
    go_wp2_with fail
    refine (sFaces_any _ _ ns ls _ P1.out P2.out).mono ?_
    rintro e w3 ⟨v3, rfl, ho, hb⟩
    have B0 := hid (B0.out.below hb)
    have S0 := hid (then_ S0.out hb S0.out.size)
    have HN := hid (HN.out.below hb)
    have HL := hid (HL.out.below hb)
    have v0 := B0.out.c0
    have v1 := B0.out.c1
    have W3 := hid ho
    have HN3 := HN
    have HL3 := HL
    have B3 := B0
    have T3 := hid (Below.refl w3.heap.size w3)
    obtain ⟨A3, c3, rfl⟩ := ownSS_form ho
    clear hb ho P1 P2
    go_wp2_with fail
    refine (toWindow_any _ _ ns ls _ HN.out HL.out HD.out.1 HD.out.2).mono ?_
    rintro e w4 ⟨q1, q2, rfl, ho1, ho2, hb⟩
    have T3 := hid (then_ T3.out hb T3.out.size)
    have B0 := hid (B3.out.below T3.out)
    have HN := hid (HN3.out.below T3.out)
    have HL := hid (HL3.out.below T3.out)
    have W0 := hid (W3.out.below T3.out)
    have v0 := B0.out.c0
    have v1 := B0.out.c1
    obtain ⟨g1, rfl, _, _, _⟩ := id ho1
    obtain ⟨g2, rfl, _, _, _⟩ := id ho2
    have Q1 := hid ho1
    have Q2 := hid ho2
    clear hb ho1 ho2
    have X0 := hid (BoxV.new w4 (.slice (some ⟨g1, 0, none⟩) ns.length ns.length) (.slice (some ⟨g2, 0, none⟩) ls.length ls.length) 31 w4.heap.size rfl)
    have hb : Below w4.heap.size w4 (w4.alloc (.cells #[.slice (some ⟨g1, 0, none⟩) ns.length ns.length, .slice (some ⟨g2, 0, none⟩) ls.length ls.length] 31)) := (Below.refl _ _).alloc (Nat.le_refl _) _
    have T3 := hid (then_ T3.out hb T3.out.size)
    have B0 := hid (B3.out.below T3.out)
    have HN := hid (HN3.out.below T3.out)
    have HL := hid (HL3.out.below T3.out)
    have W0 := hid (W3.out.below T3.out)
    have Q1 := hid (OwnPairs.below (C := 0) Q1.out hb)
    have Q2 := hid (OwnPairs.below (C := 0) Q2.out hb)
    have v0 := B0.out.c0
    have v1 := B0.out.c1
    clear hb v0 v1
    go_wp2_with fail
    refine (iFaces_any _ _ ns ls _ Q1.out.pairs Q2.out.pairs).mono ?_
    rintro e w5 ⟨v5, rfl, ho, hb⟩
    have le3 := T3.out.size
    have G0 := hid (ho.less le3)
    have T3 := hid (then_ T3.out hb T3.out.size)
    have B0 := hid (B3.out.below T3.out)
    have HN := hid (HN3.out.below T3.out)
    have HL := hid (HL3.out.below T3.out)
    have W0 := hid (W3.out.below T3.out)
    have Q1 := hid (OwnPairs.below (C := 0) Q1.out hb)
    have Q2 := hid (OwnPairs.below (C := 0) Q2.out hb)
    have X0 := hid (X0.out.below hb)
    have v0 := B0.out.c0
    have v1 := B0.out.c1
    obtain ⟨A5, c5, rfl⟩ := ownSS_form ho
    clear hb ho le3
    have y0 := X0.out.c0
    have y1 := X0.out.c1
    have ylt := X0.out.lt
    go_wp2_with fail
    refine (eqIntSS_same _ _ (facesF ns ls) _ (faces_ss G0.out) (faces_ss W0.out)).mono ?_
    rintro e w6 ⟨rfl, hb⟩
    have T3 := hid (then_ T3.out hb T3.out.size)
    have B0 := hid (B3.out.below T3.out)
    have HN := hid (HN3.out.below T3.out)
    have HL := hid (HL3.out.below T3.out)
    have W0 := hid (W3.out.below T3.out)
    have G0 := hid (G0.out.below hb)
    have Q1 := hid (OwnPairs.below (C := 0) Q1.out hb)
    have Q2 := hid (OwnPairs.below (C := 0) Q2.out hb)
    have X0 := hid (X0.out.below hb)
    have v0 := B0.out.c0
    have v1 := B0.out.c1
    clear hb
    have y0 := X0.out.c0
    have y1 := X0.out.c1
    have ylt := X0.out.lt
    go_wp2_with fail
    refine wh_start (S := (fun w' => w'.cell? ⟨w.heap.size, 0, none⟩ = some (.slice A ns.length c) ∧ w'.cell? ⟨w.heap.size, 1, none⟩ = some (.slice A' ls.length c') ∧ w'.cell? ⟨w4.heap.size, 0, none⟩ = some (.slice (some ⟨g1, 0, none⟩) ns.length ns.length) ∧ w'.cell? ⟨w4.heap.size, 1, none⟩ = some (.slice (some ⟨g2, 0, none⟩) ls.length ls.length))) (by kernel_rfl) ⟨v0, v1, y0, y1⟩ ?_
    refine wh_take (i := 0) (v := ?_) rfl (by kernel_rfl) (by kernel_rfl) (by kernel_rfl) (fun _ _ _ h => h) (by kernel_rfl) ?_ ?_
    rotate_left
    (focus (intro w hSw; (try dsimp only at hSw); go_simp; try with_reducible rfl))
    simp only [Act.put, List.setIfInBounds_toArray, List.set_cons_zero, List.set_cons_succ, List.getElem_toArray, List.getElem_cons_succ, List.getElem_cons_zero, Nat.reduceAdd]
    refine wh_take (i := 1) (v := ?_) rfl (by kernel_rfl) (by kernel_rfl) (by kernel_rfl) (fun _ _ _ h => h) (by kernel_rfl) ?_ ?_
    rotate_left
    (focus (intro w hSw; (try dsimp only at hSw); go_simp; try with_reducible rfl))
    simp only [Act.put, List.setIfInBounds_toArray, List.set_cons_zero, List.set_cons_succ, List.getElem_toArray, List.getElem_cons_succ, List.getElem_cons_zero, Nat.reduceAdd]
    refine wh_step (i := 2) rfl (by kernel_rfl) (fun K hK => ?_)
    go_simp
    refine (toWindow_any _ _ ns ls _ (by exact PairsAt.drew HN.out) (by exact PairsAt.drew HL.out) HD.out.1 HD.out.2).mono ?_
    rintro e w7 ⟨p3, p4, rfl, ho1, ho2, hb⟩
    have hb := then_ ((Below.refl _ _).drew) hb (Nat.le_refl _)
    have T3 := hid (then_ T3.out hb T3.out.size)
    have B0 := hid (B3.out.below T3.out)
    have HN := hid (HN3.out.below T3.out)
    have HL := hid (HL3.out.below T3.out)
    have W0 := hid (W3.out.below T3.out)
    have G0 := hid (G0.out.below hb)
    have Q1 := hid (OwnPairs.below (C := 0) Q1.out hb)
    have Q2 := hid (OwnPairs.below (C := 0) Q2.out hb)
    have X0 := hid (X0.out.below hb)
    have v0 := B0.out.c0
    have v1 := B0.out.c1
    have P3 := hid ho1.pairs
    have P4 := hid ho2.pairs
    clear hb ho1 ho2
    have y0 := X0.out.c0
    have y1 := X0.out.c1
    have ylt := X0.out.lt
    (try dsimp only)
    refine hK.out _ _ ⟨v0, v1, y0, y1⟩ ?_
    clear hK K
    (try simp only [Act.put, List.setIfInBounds_toArray, List.set_cons_zero, List.set_cons_succ, List.getElem_toArray, List.getElem_cons_succ, List.getElem_cons_zero, Nat.reduceAdd])
    refine wh_step (i := 3) rfl (by kernel_rfl) (fun K hK => ?_)
    go_simp
    refine (eqWindow_same _ _ _ _ ns ls _ Q1.out.pairs Q2.out.pairs P3.out P4.out).mono ?_
    rintro e w8 ⟨rfl, hb⟩
    have T3 := hid (then_ T3.out hb T3.out.size)
    have B0 := hid (B3.out.below T3.out)
    have HN := hid (HN3.out.below T3.out)
    have HL := hid (HL3.out.below T3.out)
    have W0 := hid (W3.out.below T3.out)
    have G0 := hid (G0.out.below hb)
    have Q1 := hid (OwnPairs.below (C := 0) Q1.out hb)
    have Q2 := hid (OwnPairs.below (C := 0) Q2.out hb)
    have X0 := hid (X0.out.below hb)
    have v0 := B0.out.c0
    have v1 := B0.out.c1
    clear hb
    have y0 := X0.out.c0
    have y1 := X0.out.c1
    have ylt := X0.out.lt
    (try dsimp only)
    refine hK.out _ _ ⟨v0, v1, y0, y1⟩ ?_
    clear hK K
    (try simp only [Act.put, List.setIfInBounds_toArray, List.set_cons_zero, List.set_cons_succ, List.getElem_toArray, List.getElem_cons_succ, List.getElem_cons_zero, Nat.reduceAdd])
    refine wh_take (i := 4) (v := ?_) rfl (by kernel_rfl) (by kernel_rfl) (by kernel_rfl) (fun _ _ _ h => h) (by kernel_rfl) ?_ ?_
    rotate_left
    (focus (intro w hSw; (try dsimp only at hSw); go_simp; try with_reducible rfl))
    simp only [Act.put, List.setIfInBounds_toArray, List.set_cons_zero, List.set_cons_succ, List.getElem_toArray, List.getElem_cons_succ, List.getElem_cons_zero, Nat.reduceAdd]
    refine wh_done (by kernel_rfl) ?_
    go_wp2_with fail
    refine (markWindow_all w3.heap.size _ _ ns ls _ _ Q1.out Q2.out (by omega) (by omega) T3.out.size).mono ?_
    rintro e w9 ⟨rfl, _, _, hb, hk⟩
    have G0 := hid (G0.out.marked Q1.out Q2.out hk hb.size)
    have T3 := hid (T3.out.trans hb)
    obtain ⟨q, hq⟩ : ∃ q : Int, q = 1 + 2 * (ns.length : Int) + 2 * (ls.length : Int) := ⟨_, rfl⟩
    have hq0 : 0 ≤ q := by omega
    rw [← hq]
    clear hq hb hk y0 y1 ylt X0 Q1 Q2
    have B0 := hid (B3.out.below T3.out)
    have HN := hid (HN3.out.below T3.out)
    have HL := hid (HL3.out.below T3.out)
    have W0 := hid (W3.out.below T3.out)
    have v0 := B0.out.c0
    have v1 := B0.out.c1
    go_wp2_with fail
    refine (eqIntSS_same _ _ (facesF ns ls) _ (faces_ss G0.out) (faces_ss W0.out)).mono ?_
    rintro e w10 ⟨rfl, hb⟩
    have T3 := hid (then_ T3.out hb T3.out.size)
    have B0 := hid (B3.out.below T3.out)
    have HN := hid (HN3.out.below T3.out)
    have HL := hid (HL3.out.below T3.out)
    have W0 := hid (W3.out.below T3.out)
    have G0 := hid (G0.out.below hb)
    have v0 := B0.out.c0
    have v1 := B0.out.c1
    clear hb
    go_wp2_with fail
    refine (markIntSS_any w3.heap.size _ (facesF ns ls) _ _ G0.out HX.out (Nat.le_trans FT.out (by omega)) (by omega) (by omega) T3.out.size).mono ?_
    rintro e w11 ⟨rfl, ho, hb⟩
    have T3 := hid (T3.out.trans hb)
    have M0 := hid ho
    clear hb ho G0
    have B0 := hid (B3.out.below T3.out)
    have HN := hid (HN3.out.below T3.out)
    have HL := hid (HL3.out.below T3.out)
    have W0 := hid (W3.out.below T3.out)
    have v0 := B0.out.c0
    have v1 := B0.out.c1
    go_wp2_with fail
    refine (heldIntSS_any _ (facesF ns ls) _ _ (allSS_ss M0.out) HX.out (Nat.le_trans FT.out (by omega)) (by omega) (by omega)).mono ?_
    rintro e wh ⟨rfl, rfl⟩
    go_wp2_with fail
    refine (toWindow_any _ _ ns ls _ HN.out HL.out HD.out.1 HD.out.2).mono ?_
    rintro e w12 ⟨p1, p2, rfl, ho1, ho2, hb⟩
    have T3 := hid (then_ T3.out hb T3.out.size)
    have B0 := hid (B3.out.below T3.out)
    have HN := hid (HN3.out.below T3.out)
    have HL := hid (HL3.out.below T3.out)
    have W0 := hid (W3.out.below T3.out)
    have v0 := B0.out.c0
    have v1 := B0.out.c1
    have M0 := hid (M0.out.below hb)
    have P1 := hid ho1.pairs
    have P2 := hid ho2.pairs
    clear hb ho1 ho2
    go_wp2_with fail
    refine (iFaces_any _ _ ns ls _ P1.out P2.out).mono ?_
    rintro e w13 ⟨v13, rfl, ho, hb⟩
    have T3 := hid (then_ T3.out hb T3.out.size)
    have B0 := hid (B3.out.below T3.out)
    have HN := hid (HN3.out.below T3.out)
    have HL := hid (HL3.out.below T3.out)
    have W0 := hid (W3.out.below T3.out)
    have v0 := B0.out.c0
    have v1 := B0.out.c1
    have M0 := hid (M0.out.below hb)
    have I0 := hid ho
    obtain ⟨A13, c13, rfl⟩ := ownSS_form ho
    clear hb ho P1 P2
    go_wp2_with fail
    refine (eqIntSS_same _ _ (facesF ns ls) _ (faces_ss I0.out) (faces_ss W0.out)).mono ?_
    rintro e w14 ⟨rfl, hb⟩
    have T3 := hid (then_ T3.out hb T3.out.size)
    have B0 := hid (B3.out.below T3.out)
    have HN := hid (HN3.out.below T3.out)
    have HL := hid (HL3.out.below T3.out)
    have W0 := hid (W3.out.below T3.out)
    have v0 := B0.out.c0
    have v1 := B0.out.c1
    have M0 := hid (M0.out.below hb)
    clear hb
    go_wp2_with fail
    refine (heldIntSS_any _ (facesF ns ls) _ _ (allSS_ss M0.out) HX.out (Nat.le_trans FT.out (by omega)) (by omega) (by omega)).mono ?_
    rintro e wh ⟨rfl, rfl⟩
    go_wp2
    go_ret
    exact ⟨rfl, S0.out.trans (T3.out.mono S0.out.size)⟩
end Go.Proofs.Ytdhppajfdcfikaa

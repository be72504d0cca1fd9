/- The walks of the laws on a window: each returns true. No condition. -/
import Derived.Test.YtdhppajfdcfikaaFaceAt
import Derived.Test.YtdhppajfdcfikaaWconv
namespace Go.Proofs.Ytdhppajfdcfikaa
open Go.ChangeShapes Go.WideShapes Go.ChangeAt Go.RowKit
set_option maxHeartbeats 2000000
set_option linter.unusedSimpArgs false
set_option linter.unusedVariables false
theorem FnExactFaceAt_walk (w : World) (vn vl : Value) (ns ls : List (Int × Int)) (hn : PairsAt w vn ns) (hl : PairsAt w vl ls) (x1 : Int) (_ : (Lit.int .i64 x1).wf = true) : Calls Try.prog 11 #[.agg #[vn, vl], .int .i64 x1] w fun e w' => e = .returned (.bool true) ∧ Below w.heap.size w w' := by
  have s0 : Below w.heap.size w (w.alloc (.cells #[vn, vl] 25)) := (Below.refl _ _).alloc (Nat.le_refl _) _
  have HN := hid (hn.below s0)
  have HL := hid (hl.below s0)
  have B0 := hid (BoxV.new w vn vl 25 w.heap.size rfl)
  have S0 := hid s0
  clear s0
  obtain ⟨A, c, rfl, _, _, _⟩ := id hn
  obtain ⟨A', c', rfl, _, _, _⟩ := id hl
  clear hn hl
  have v0 := B0.out.c0
  have v1 := B0.out.c1
  by_cases h : szW 1048576 ns.length ls.length < 0
  · have H := hid h
    clear h
    go_enter Try.func11, Try.ntmps11
    go_wp2_with fail
    refine (szWindow_any _ _ ns ls _ _ HN.out HL.out (by omega) (by omega)).mono ?_
    rintro e w1 ⟨rfl, hb1⟩
    have h := H.out
    go_wp2
    go_ret
    exact ⟨rfl, then_ S0.out hb1 S0.out.size⟩
  · have hd : ns.length ≤ 1048576 ∧ ls.length ≤ 1048576 := by unfold szW szF at h; split at h <;> (try split at h) <;> omega
    have HD := hid hd
    have H := hid (show 0 ≤ szW 1048576 ns.length ls.length by omega)
    clear h hd
    go_enter Try.func11, Try.ntmps11
    go_wp2_with fail
    refine (szWindow_any _ _ ns ls _ _ HN.out HL.out (by omega) (by omega)).mono ?_
    rintro e w1 ⟨rfl, hb⟩
    have B0 := hid (B0.out.below hb)
    have S0 := hid (then_ S0.out hb S0.out.size)
    have HN := hid (HN.out.below hb)
    have HL := hid (HL.out.below hb)
    have v0 := B0.out.c0
    have v1 := B0.out.c1
    have vlt := B0.out.lt
    clear hb
    have h := H.out
    go_wp2_with fail
    refine (toWindow_any _ _ ns ls _ HN.out HL.out HD.out.1 HD.out.2).mono ?_
    rintro e w2 ⟨p1, p2, rfl, ho1, ho2, hb⟩
    have B0 := hid (B0.out.below hb)
    have S0 := hid (then_ S0.out hb S0.out.size)
    have HN := hid (HN.out.below hb)
    have HL := hid (HL.out.below hb)
    have v0 := B0.out.c0
    have v1 := B0.out.c1
    have vlt := B0.out.lt
    have P1 := hid ho1.pairs
    have P2 := hid ho2.pairs
    clear hb ho1 ho2
    go_wp2_with fail
    refine (sFA_any _ _ ns ls _ _ P1.out P2.out).mono ?_
    rintro e w3 ⟨rfl, hb⟩
    have B0 := hid (B0.out.below hb)
    have S0 := hid (then_ S0.out hb S0.out.size)
    have HN := hid (HN.out.below hb)
    have HL := hid (HL.out.below hb)
    have v0 := B0.out.c0
    have v1 := B0.out.c1
    have vlt := B0.out.lt
    clear hb P1 P2
    go_wp2_with fail
    refine (toWindow_any _ _ ns ls _ HN.out HL.out HD.out.1 HD.out.2).mono ?_
    rintro e w4 ⟨q1, q2, rfl, ho1, ho2, hb⟩
    have B0 := hid (B0.out.below hb)
    have S0 := hid (then_ S0.out hb S0.out.size)
    have HN := hid (HN.out.below hb)
    have HL := hid (HL.out.below hb)
    have v0 := B0.out.c0
    have v1 := B0.out.c1
    have vlt := B0.out.lt
    have Q1 := hid ho1.pairs
    have Q2 := hid ho2.pairs
    obtain ⟨g1, rfl, _, _, _⟩ := ho1
    obtain ⟨g2, rfl, _, _, _⟩ := ho2
    clear hb
    have X0 := hid (BoxV.new w4 (.slice (some ⟨g1, 0, none⟩) ns.length ns.length) (.slice (some ⟨g2, 0, none⟩) ls.length ls.length) 31 w4.heap.size rfl)
    have hb : Below w4.heap.size w4 (w4.alloc (.cells #[.slice (some ⟨g1, 0, none⟩) ns.length ns.length, .slice (some ⟨g2, 0, none⟩) ls.length ls.length] 31)) := (Below.refl _ _).alloc (Nat.le_refl _) _
    have B0 := hid (B0.out.below hb)
    have S0 := hid (then_ S0.out hb S0.out.size)
    have HN := hid (HN.out.below hb)
    have HL := hid (HL.out.below hb)
    have Q1 := hid (Q1.out.below hb)
    have Q2 := hid (Q2.out.below hb)
    have v0 := B0.out.c0
    have v1 := B0.out.c1
    have vlt := B0.out.lt
    clear hb v0 v1
    go_wp2_with fail
    refine (iFA_any _ _ ns ls _ _ Q1.out Q2.out).mono ?_
    rintro e w5 ⟨rfl, hb⟩
    have B0 := hid (B0.out.below hb)
    have S0 := hid (then_ S0.out hb S0.out.size)
    have HN := hid (HN.out.below hb)
    have HL := hid (HL.out.below hb)
    have Q1 := hid (Q1.out.below hb)
    have Q2 := hid (Q2.out.below hb)
    have X0 := hid (X0.out.below hb)
    have v0 := B0.out.c0
    have v1 := B0.out.c1
    have vlt := B0.out.lt
    clear hb
    have x0 := X0.out.c0
    have x1 := X0.out.c1
    have xlt := X0.out.lt
    go_wp2_with fail
    refine wh_start (S := (fun w' => w'.cell? ⟨w.heap.size, 0, none⟩ = some (.slice A ns.length c) ∧ w'.cell? ⟨w.heap.size, 1, none⟩ = some (.slice A' ls.length c') ∧ w'.cell? ⟨w4.heap.size, 0, none⟩ = some (.slice (some ⟨g1, 0, none⟩) ns.length ns.length) ∧ w'.cell? ⟨w4.heap.size, 1, none⟩ = some (.slice (some ⟨g2, 0, none⟩) ls.length ls.length))) (by kernel_rfl) ⟨v0, v1, x0, x1⟩ ?_
    refine wh_take (i := 0) (v := ?_) rfl (by kernel_rfl) (by kernel_rfl) (by kernel_rfl) (fun _ _ _ h => h) (by kernel_rfl) ?_ ?_
    rotate_left
    (focus (intro w hSw; (try dsimp only at hSw); go_simp; try with_reducible rfl))
    simp only [Act.put, List.setIfInBounds_toArray, List.set_cons_zero, List.set_cons_succ, List.getElem_toArray, List.getElem_cons_succ, List.getElem_cons_zero, Nat.reduceAdd]
    refine wh_take (i := 1) (v := ?_) rfl (by kernel_rfl) (by kernel_rfl) (by kernel_rfl) (fun _ _ _ h => h) (by kernel_rfl) ?_ ?_
    rotate_left
    (focus (intro w hSw; (try dsimp only at hSw); go_simp; try with_reducible rfl))
    simp only [Act.put, List.setIfInBounds_toArray, List.set_cons_zero, List.set_cons_succ, List.getElem_toArray, List.getElem_cons_succ, List.getElem_cons_zero, Nat.reduceAdd]
    refine wh_step (i := 2) rfl (by kernel_rfl) (fun K hK => ?_)
    go_simp
    refine (toWindow_any _ _ ns ls _ (by exact PairsAt.drew HN.out) (by exact PairsAt.drew HL.out) HD.out.1 HD.out.2).mono ?_
    rintro e w6 ⟨p3, p4, rfl, ho1, ho2, hb⟩
    have hb := then_ ((Below.refl _ _).drew) hb (Nat.le_refl _)
    have B0 := hid (B0.out.below hb)
    have S0 := hid (then_ S0.out hb S0.out.size)
    have HN := hid (HN.out.below hb)
    have HL := hid (HL.out.below hb)
    have Q1 := hid (Q1.out.below hb)
    have Q2 := hid (Q2.out.below hb)
    have X0 := hid (X0.out.below hb)
    have v0 := B0.out.c0
    have v1 := B0.out.c1
    have vlt := B0.out.lt
    have P3 := hid ho1.pairs
    have P4 := hid ho2.pairs
    clear hb ho1 ho2
    have x0 := X0.out.c0
    have x1 := X0.out.c1
    (try dsimp only)
    refine hK.out _ _ ⟨v0, v1, x0, x1⟩ ?_
    clear hK K
    (try simp only [Act.put, List.setIfInBounds_toArray, List.set_cons_zero, List.set_cons_succ, List.getElem_toArray, List.getElem_cons_succ, List.getElem_cons_zero, Nat.reduceAdd])
    refine wh_step (i := 3) rfl (by kernel_rfl) (fun K hK => ?_)
    go_simp
    refine (eqWindow_same _ _ _ _ ns ls _ Q1.out Q2.out P3.out P4.out).mono ?_
    rintro e w7 ⟨rfl, hb⟩
    have B0 := hid (B0.out.below hb)
    have S0 := hid (then_ S0.out hb S0.out.size)
    have HN := hid (HN.out.below hb)
    have HL := hid (HL.out.below hb)
    have X0 := hid (X0.out.below hb)
    have v0 := B0.out.c0
    have v1 := B0.out.c1
    have vlt := B0.out.lt
    clear hb
    have x0 := X0.out.c0
    have x1 := X0.out.c1
    (try dsimp only)
    refine hK.out _ _ ⟨v0, v1, x0, x1⟩ ?_
    clear hK K
    (try simp only [Act.put, List.setIfInBounds_toArray, List.set_cons_zero, List.set_cons_succ, List.getElem_toArray, List.getElem_cons_succ, List.getElem_cons_zero, Nat.reduceAdd])
    refine wh_take (i := 4) (v := ?_) rfl (by kernel_rfl) (by kernel_rfl) (by kernel_rfl) (fun _ _ _ h => h) (by kernel_rfl) ?_ ?_
    rotate_left
    (focus (intro w hSw; (try dsimp only at hSw); go_simp; try with_reducible rfl))
    simp only [Act.put, List.setIfInBounds_toArray, List.set_cons_zero, List.set_cons_succ, List.getElem_toArray, List.getElem_cons_succ, List.getElem_cons_zero, Nat.reduceAdd]
    refine wh_done (by kernel_rfl) ?_
    go_wp2
    go_ret
    exact ⟨rfl, S0.out⟩
end Go.Proofs.Ytdhppajfdcfikaa

/- The whole windows that the laws draw. No condition but the sizes that are named. -/
import Derived.Test.YtdhppajfdcfikaaDrawW
import Derived.Test.YtdhppajfdcfikaaM2
namespace Go.Proofs.Ytdhppajfdcfikaa
open Go.ChangeShapes Go.WideShapes Go.ChangeAt Go.RowKit
set_option maxHeartbeats 4000000
set_option maxRecDepth 100000
set_option linter.unusedSimpArgs false
set_option linter.unusedVariables false
theorem shw0 : wholeB (shN 0) (shL 0) = true := by kernel_rfl
theorem shw1 : wholeB (shN 1) (shL 1) = true := by kernel_rfl
theorem shw2 : wholeB (shN 2) (shL 2) = true := by kernel_rfl
theorem shw3 : wholeB (shN 3) (shL 3) = true := by kernel_rfl
theorem sh_whole (k : Nat) (hk : k ≤ 3) : wholeB (shN k) (shL k) = true := by
  have h : k = 0 ∨ k = 1 ∨ k = 2 ∨ k = 3 := by omega
  rcases h with rfl | rfl | rfl | rfl
  · exact shw0
  · exact shw1
  · exact shw2
  · exact shw3
def DrawWh (p : Nat) (w : World) (e : Ending) (w' : World) : Prop := ∃ p1 p2 ns ls, e = .returned (.agg #[p1, p2]) ∧ OwnR w.heap.size 71 w' p1 ns ∧ OwnR w.heap.size 73 w' p2 ls ∧ wholeB ns ls = true ∧ Cur w' p ∧ w.grownBy w' (some p)
/-- what is put into the result's cells -/
theorem res_put {p r : Nat} {w W : World} {p1 p2 : Value} {ns ls : List (Int × Int)} (hc : Cur W p) (hg : w.grownBy W (some p)) (hR : ∃ u v, Blk W r 31 #[u, v]) (o1 : OwnR w.heap.size 71 W p1 ns) (o2 : OwnR w.heap.size 73 W p2 ls) (hpr : p < r) (hwr : w.heap.size ≤ r) :
    Blk ((W.setCell ⟨r, 0, none⟩ p1).setCell ⟨r, 1, none⟩ p2) r 31 #[p1, p2] ∧ OwnR w.heap.size 71 ((W.setCell ⟨r, 0, none⟩ p1).setCell ⟨r, 1, none⟩ p2) p1 ns ∧ OwnR w.heap.size 73 ((W.setCell ⟨r, 0, none⟩ p1).setCell ⟨r, 1, none⟩ p2) p2 ls ∧ Cur ((W.setCell ⟨r, 0, none⟩ p1).setCell ⟨r, 1, none⟩ p2) p ∧ w.grownBy ((W.setCell ⟨r, 0, none⟩ p1).setCell ⟨r, 1, none⟩ p2) (some p) := by
  obtain ⟨u, v, k⟩ := hR
  have n1 := World.ownsRow.other o1.1 k (by decide)
  have n2 := World.ownsRow.other o2.1 k (by decide)
  have hcc : ∀ o (v : Value) (W : World), Cur W p → Cur (W.setCell ⟨r, o, none⟩ v) p := fun o v W hk => hk.keep (some r) (fun g' e => by have := Option.some.inj e; omega) (cur_set W r o v)
  have hb : Below w.heap.size W ((W.setCell ⟨r, 0, none⟩ p1).setCell ⟨r, 1, none⟩ p2) := ((Below.refl _ _).setCell (p := ⟨r, 0, none⟩) hwr _).setCell (p := ⟨r, 1, none⟩) hwr _
  exact ⟨(k.set_ 0 p1).set_ 1 p2, (o1.set_far n1 _ _).set_far n1 _ _, (o2.set_far n2 _ _).set_far n2 _ _, hcc _ _ _ (hcc _ _ _ hc), ⟨hb.os.trans hg.os, hb.tape.trans hg.tape, hb.output.trans hg.output, Nat.le_trans hg.size (by simp [World.setCell]), fun k hk hne => (hb.block k hk).trans (hg.block k hk hne)⟩⟩
theorem drawWh_any (p : Nat) (w : World) (H : Cur w p) : Calls Try.prog 75 #[.pointer (some ⟨p, 0, none⟩)] w (DrawWh p w) := by
  have plt := H.lt
  have K0 := hid (H.alloc (.cells #[.slice none 0 0, .slice none 0 0] 31))
  have R0 := hid (show ∃ u v, Blk (w.alloc (.cells #[.slice none 0 0, .slice none 0 0] 31)) w.heap.size 31 #[u, v] from ⟨_, _, Blk.new w 31 #[.slice none 0 0, .slice none 0 0]⟩)
  have G0 := hid (World.grownBy_alloc w (.cells #[.slice none 0 0, .slice none 0 0] 31) (some p))
  clear H
  go_enter Try.func75, Try.ntmps75
  go_wp2_with fail
  generalize hr : w.heap.size = r at R0 ⊢
  have HR := hid hr
  clear hr
  generalize w.alloc _ = wa at K0 R0 G0 ⊢
  go_loopw [3] (fun k wr => ∃ n : Nat, n ≤ 4 ∧ k = .int .i64 n ∧ Hid (Cur wr p) ∧ Hid (∃ u v, Blk wr r 31 #[u, v]) ∧ Hid (w.grownBy wr (some p))) (fun k _ => 4 - (intOf k).toNat)
  case atStart => exact ⟨0, by omega, rfl, K0, R0, G0⟩
  case round =>
    clear K0 R0 G0
    obtain ⟨n, hn, rfl, K, R, G⟩ := hrel
    by_cases hn4 : n < 4
    · have hn0 : (n : Int) < 4 := by omega
      go_wp2_with fail
      refine (drawWin_any p _ K.out).mono ?_
      rintro e w2 ⟨p1, p2, ns, ls, rfl, o1, o2, ok, hc, hg⟩
      obtain ⟨A1, c1, rfl⟩ := o1.form
      obtain ⟨A2, c2, rfl⟩ := o2.form
      have hsz := G.out.size
      have a1 : Below w2.heap.size w2 (w2.alloc (.cells #[.slice A1 ns.length c1, .slice A2 ls.length c2] 31)) := (Below.refl _ _).alloc (Nat.le_refl _) _
      have O1 := hid ((o1.below a1).less hsz)
      have O2 := hid ((o2.below a1).less hsz)
      have K2 := hid (hc.below a1)
      have R2 := hid (show ∃ u v, Blk (w2.alloc (.cells #[.slice A1 ns.length c1, .slice A2 ls.length c2] 31)) r 31 #[u, v] by
        obtain ⟨u, v, k⟩ := R.out
        have k2 := k.grow hg (fun e => by have := Option.some.inj e; have := HR.out; omega)
        exact ⟨u, v, k2.below a1 k2.lt⟩)
      have G2 := hid ((G.out.trans hg).trans (grownBy_below' a1))
      have X2 := hid (Blk.new w2 31 #[.slice A1 ns.length c1, .slice A2 ls.length c2])
      have z0 : (w2.alloc (.cells #[.slice A1 ns.length c1, .slice A2 ls.length c2] 31)).cell? ⟨w2.heap.size, 0, none⟩ = some (.slice A1 ns.length c1) := by rw [X2.out.cell]; rfl
      have z1 : (w2.alloc (.cells #[.slice A1 ns.length c1, .slice A2 ls.length c2] 31)).cell? ⟨w2.heap.size, 1, none⟩ = some (.slice A2 ls.length c2) := by rw [X2.out.cell]; rfl
      clear o1 o2 hc hg a1 K R G
      go_wp2_with fail
      generalize w2.heap.size = g at X2 z0 z1 ⊢
      generalize w2.alloc _ = w3 at O1 O2 K2 R2 G2 X2 z0 z1 ⊢
      refine (sWhole_any _ _ ns ls _ O1.out.pairs O2.out.pairs).mono ?_
      rintro e w4 ⟨rfl, hb⟩
      replace O1 := hid (O1.out.below hb)
      replace O2 := hid (O2.out.below hb)
      replace K2 := hid (K2.out.below hb)
      replace R2 := hid (show ∃ u v, Blk w4 r 31 #[u, v] by obtain ⟨u, v, k⟩ := R2.out; exact ⟨u, v, k.below hb k.lt⟩)
      replace G2 := hid (G2.out.trans (grownBy_below' hb))
      replace X2 := hid (X2.out.below hb X2.out.lt)
      clear hb z0 z1
      cases hw : wholeB ns ls
      · clear hw
        go_wp2
        go_roundw
        case rel => exact ⟨n + 1, by omega, by go_num, K2, R2, G2⟩
        case measure => first | (simp [intOf]; done) | (simp [intOf]; omega)
      · have OKK := hid hw
        obtain ⟨t1, t2, t3, t4, t5⟩ := res_put K2.out G2.out R2.out O1.out O2.out (by have := HR.out; omega) (by have := HR.out; omega)
        obtain ⟨u9, v9, hR⟩ := R2.out
        have z0 : w4.cell? ⟨g, 0, none⟩ = some (.slice A1 ns.length c1) := by rw [X2.out.cell]; rfl
        have z1 : w4.cell? ⟨g, 1, none⟩ = some (.slice A2 ls.length c2) := by rw [X2.out.cell]; rfl
        have r0 : w4.cell? ⟨r, 0, none⟩ = some u9 := by rw [hR.cell]; rfl
        have r1 : w4.cell? ⟨r, 1, none⟩ = some v9 := by rw [hR.cell]; rfl
        have f0 : w4.frozen? ⟨r, 0, none⟩ = false := hR.frozen 0
        have f1 : w4.frozen? ⟨r, 1, none⟩ = false := hR.frozen 1
        have y0 : ((w4.setCell ⟨r, 0, none⟩ (.slice A1 ns.length c1)).setCell ⟨r, 1, none⟩ (.slice A2 ls.length c2)).cell? ⟨r, 0, none⟩ = some (.slice A1 ns.length c1) := by rw [t1.cell]; rfl
        have y1 : ((w4.setCell ⟨r, 0, none⟩ (.slice A1 ns.length c1)).setCell ⟨r, 1, none⟩ (.slice A2 ls.length c2)).cell? ⟨r, 1, none⟩ = some (.slice A2 ls.length c2) := by rw [t1.cell]; rfl
        have T2 := hid t2
        have T3 := hid t3
        have T4 := hid t4
        have T5 := hid t5
        clear t1 t2 t3 t4 t5 hR hw
        go_wp2
        exact bodyPost_ret (v := .agg #[.slice A1 ns.length c1, .slice A2 ls.length c2]) (by simp [results, Try.results75, go_sem, y0, y1]) rfl ⟨_, _, _, _, rfl, T2.out, T3.out, OKK.out, T4.out, T5.out⟩
    · have he : n = 4 := by omega
      subst he
      clear hn hn4
      go_wp2_with fail
      refine (curBelow_any p 4 _ K.out (by omega) (by omega)).mono ?_
      rintro e w1 ⟨x, x0, x1, rfl, hk, hg⟩
      have K1 := hid hk
      have R1 := hid (show ∃ u v, Blk w1 r 31 #[u, v] by
        obtain ⟨u, v, k⟩ := R.out
        exact ⟨u, v, k.grow hg (fun e => by have := Option.some.inj e; have := HR.out; omega)⟩)
      have G1 := hid (G.out.trans hg)
      clear hk hg K R G
      obtain ⟨n, rfl⟩ : ∃ n : Nat, x = (n : Int) := ⟨x.toNat, by omega⟩
      have hn3 : n ≤ 3 := by omega
      go_wp2_with fail
      refine (shape_any n _ (by omega)).mono ?_
      rintro e w4 ⟨p1, p2, rfl, ho1, ho2, hb⟩
      have hsz := G1.out.size
      have o1 := (OwnR.of_pairs ho1).less hsz
      have o2 := (OwnR.of_pairs ho2).less hsz
      have OKK := hid (sh_whole n hn3)
      generalize shN n = ns at o1 OKK ho1
      generalize shL n = ls at o2 OKK ho2
      obtain ⟨A1, c1, rfl⟩ := o1.form
      obtain ⟨A2, c2, rfl⟩ := o2.form
      have R2 : ∃ u v, Blk w4 r 31 #[u, v] := by obtain ⟨u, v, k⟩ := R1.out; exact ⟨u, v, k.below hb k.lt⟩
      obtain ⟨t1, t2, t3, t4, t5⟩ := res_put (K1.out.below hb) (G1.out.trans (grownBy_below' hb)) R2 o1 o2 (by have := HR.out; omega) (by have := HR.out; omega)
      obtain ⟨u9, v9, hR⟩ := R2
      have r0 : w4.cell? ⟨r, 0, none⟩ = some u9 := by rw [hR.cell]; rfl
      have r1 : w4.cell? ⟨r, 1, none⟩ = some v9 := by rw [hR.cell]; rfl
      have f0 : w4.frozen? ⟨r, 0, none⟩ = false := hR.frozen 0
      have f1 : w4.frozen? ⟨r, 1, none⟩ = false := hR.frozen 1
      have y0 : ((w4.setCell ⟨r, 0, none⟩ (.slice A1 ns.length c1)).setCell ⟨r, 1, none⟩ (.slice A2 ls.length c2)).cell? ⟨r, 0, none⟩ = some (.slice A1 ns.length c1) := by rw [t1.cell]; rfl
      have y1 : ((w4.setCell ⟨r, 0, none⟩ (.slice A1 ns.length c1)).setCell ⟨r, 1, none⟩ (.slice A2 ls.length c2)).cell? ⟨r, 1, none⟩ = some (.slice A2 ls.length c2) := by rw [t1.cell]; rfl
      have T2 := hid t2
      have T3 := hid t3
      have T4 := hid t4
      have T5 := hid t5
      clear t1 t2 t3 t4 t5 hR o1 o2 ho1 ho2 hb
      go_wp2
      exact bodyPost_ret (v := .agg #[.slice A1 ns.length c1, .slice A2 ls.length c2]) (by simp [results, Try.results75, go_sem, y0, y1]) rfl ⟨_, _, _, _, rfl, T2.out, T3.out, OKK.out, T4.out, T5.out⟩
/-- a whole window, whatever it is -/
def GoodWhole (w : World) (e : Ending) (w' : World) : Prop := ∃ p1 p2 ns ls, e = .returned (.agg #[p1, p2]) ∧ OwnR w.heap.size 71 w' p1 ns ∧ OwnR w.heap.size 73 w' p2 ls ∧ wholeB ns ls = true ∧ Below w.heap.size w w'
theorem drawWhole_any (A : Option Addr) (n c : Nat) (w : World) (hb : LoBytes w A n) (hn : n ≤ 1048576) : Calls Try.prog 48 #[.slice A n c] w (GoodWhole w) := by
  have b0 : Below w.heap.size w (w.alloc (.cells #[.slice none 0 0, .slice none 0 0] 31)) := (Below.refl _ _).alloc (Nat.le_refl _) _
  have LB := hid (hb.below b0)
  have R0 := hid (Blk.new w 31 #[.slice none 0 0, .slice none 0 0])
  have B0 := hid b0
  clear hb b0
  go_enter Try.func48, Try.ntmps48
  go_wp2_with fail
  refine (curNew_any A n c _ LB.out hn).mono ?_
  rintro e w1 ⟨p, rfl, hp, hc, hb⟩
  have K1 := hid hc
  have R1 := hid (R0.out.below hb R0.out.lt)
  have B1 := hid (then_ B0.out hb B0.out.size)
  simp only [World.alloc, Array.size_push] at hp
  clear hc hb
  go_wp2_with fail
  refine (drawWh_any p _ K1.out).mono ?_
  rintro e w2 ⟨p1, p2, ns, ls, rfl, o1, o2, ok, hc, hg⟩
  obtain ⟨A1, c1, rfl⟩ := o1.form
  obtain ⟨A2, c2, rfl⟩ := o2.form
  have R2 := hid (R1.out.grow hg (fun e => by have := Option.some.inj e; omega))
  have B2 := hid (B1.out.grown hg B1.out.size (fun g hg => by cases hg; omega))
  have hs := B1.out.size
  have r0 : w2.cell? ⟨w.heap.size, 0, none⟩ = some (.slice none 0 0) := by rw [R2.out.cell]; rfl
  have r1 : w2.cell? ⟨w.heap.size, 1, none⟩ = some (.slice none 0 0) := by rw [R2.out.cell]; rfl
  have f0 : w2.frozen? ⟨w.heap.size, 0, none⟩ = false := R2.out.frozen 0
  have f1 : w2.frozen? ⟨w.heap.size, 1, none⟩ = false := R2.out.frozen 1
  have n1 := World.ownsRow.other o1.1 R2.out (by decide)
  have n2 := World.ownsRow.other o2.1 R2.out (by decide)
  have O1 := hid (((o1.less hs).set_far n1 0 (.slice A1 ns.length c1)).set_far n1 1 (.slice A2 ls.length c2))
  have O2 := hid (((o2.less hs).set_far n2 0 (.slice A1 ns.length c1)).set_far n2 1 (.slice A2 ls.length c2))
  have R3 := (R2.out.set_ 0 (.slice A1 ns.length c1)).set_ 1 (.slice A2 ls.length c2)
  have t0 : ((w2.setCell ⟨w.heap.size, 0, none⟩ (.slice A1 ns.length c1)).setCell ⟨w.heap.size, 1, none⟩ (.slice A2 ls.length c2)).cell? ⟨w.heap.size, 0, none⟩ = some (.slice A1 ns.length c1) := by rw [R3.cell]; rfl
  have t1 : ((w2.setCell ⟨w.heap.size, 0, none⟩ (.slice A1 ns.length c1)).setCell ⟨w.heap.size, 1, none⟩ (.slice A2 ls.length c2)).cell? ⟨w.heap.size, 1, none⟩ = some (.slice A2 ls.length c2) := by rw [R3.cell]; rfl
  have B3 := hid ((B2.out.setCell (p := ⟨w.heap.size, 0, none⟩) (Nat.le_refl _) (.slice A1 ns.length c1)).setCell (p := ⟨w.heap.size, 1, none⟩) (Nat.le_refl _) (.slice A2 ls.length c2))
  have OK := hid ok
  clear o1 o2 ok hc hg n1 n2 R3 hs
  go_wp2
  exact bodyPost_ret (v := .agg #[.slice A1 ns.length c1, .slice A2 ls.length c2]) (by simp [results, Try.results48, go_sem, t0, t1]) rfl ⟨_, _, _, _, rfl, O1.out, O2.out, OK.out, B3.out⟩
end Go.Proofs.Ytdhppajfdcfikaa

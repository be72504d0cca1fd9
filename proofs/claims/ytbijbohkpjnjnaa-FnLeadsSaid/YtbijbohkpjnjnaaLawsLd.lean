/- The walk of the law FnLeads: it returns true whatever bytes it draws from. No condition. -/
import Derived.Test.YtbijbohkpjnjnaaDrawL
import Derived.Test.YtbijbohkpjnjnaaLeadL
import Derived.Test.YtbijbohkpjnjnaaOn
namespace Go.Proofs.Ytbijbohkpjnjnaa
open Go.ChangeShapes Go.WideShapes Go.ChangeAt Go.RowKit
set_option maxHeartbeats 6000000
set_option maxRecDepth 100000
set_option linter.unusedSimpArgs false
set_option linter.unusedVariables false
theorem other_no : otherF 1 2 3 = -1 := by simp [otherF]
theorem share_yes : shareF 1 2 2 3 = true := by simp [shareF]
theorem FnLeads_walk (w : World) (A : Option Addr) (n c : Nat) (hb : LoBytes w A n) (hn : n ≤ maxLen) : Calls Try.prog 3 #[.slice A n c] w fun e w' => e = .returned (.bool true) ∧ Below w.heap.size w w' := by
  have LB := hid hb
  clear hb
  by_cases hbig : 1048576 < n
  · have hd : decide (1048576 < n) = true := by simpa using hbig
    have BG := hid (big_any A n c w hn)
    rw [hd] at BG
    go_enter Try.func3, Try.ntmps3
    go_wp2_with fail
    refine BG.out.mono ?_
    rintro e w' ⟨rfl, rfl⟩
    go_wp2
    go_ret
    exact ⟨rfl, Below.refl _ _⟩
  · have hd : decide (1048576 < n) = false := by simpa using hbig
    have BG := hid (big_any A n c w hn)
    rw [hd] at BG
    clear hd
    go_enter Try.func3, Try.ntmps3
    go_wp2_with fail
    refine BG.out.mono ?_
    rintro e w' ⟨rfl, rfl⟩
    go_wp2_with fail
    refine (drawWindow_any A n c _ LB.out (by omega)).mono ?_
    rintro e w1 ⟨p1, p2, ns, ls, rfl, o1, o2, hw, hb1⟩
    obtain ⟨A1, c1, rfl⟩ := o1.form
    obtain ⟨A2, c2, rfl⟩ := o2.form
    have a1 : Below w1.heap.size w1 (w1.alloc (.cells #[.slice A1 ns.length c1, .slice A2 ls.length c2] 27)) := (Below.refl _ _).alloc (Nat.le_refl _) _
    have P1 := hid (o1.below a1).pairs
    have P2 := hid (o2.below a1).pairs
    have X3 := hid (BoxV.new w1 (.slice A1 ns.length c1) (.slice A2 ls.length c2) 27 w1.heap.size rfl)
    have S0 := hid (then_ hb1 a1 hb1.size)
    have HW := hid hw
    have x0 := X3.out.c0
    have x1 := X3.out.c1
    clear hb1 o1 o2 a1 BG
    have LB2 := hid (LB.out.below (S0.out))
    go_wp2_with fail
    generalize w1.heap.size = g at X3 x0 x1 ⊢
    generalize w1.alloc _ = w2 at P1 P2 X3 S0 LB2 x0 x1 ⊢
    refine (Bd.drawDoCross_any A n c _ LB2.out (by omega)).mono ?_
    rintro e w3 ⟨v, ms, ja, jb, jc, jd, rfl, ho, hb⟩
    have a1 : ∀ (W : World) (o : Obj), Below W.heap.size W (W.alloc o) := fun W o => (Below.refl _ _).alloc (Nat.le_refl _) o
    have b2 : Below w3.heap.size w3 ((w3.alloc (.cells #[.int .i64 ja, .int .i64 jb] 30)).alloc (.cells #[.int .i64 jc, .int .i64 jd] 30)) := (a1 _ _).alloc (by simp) _
    have M3 := hid (ho.below b2).pairs
    have BA := hid ((Box2.new w3 ja jb 30 w3.heap.size rfl).alloc (.cells #[.int .i64 jc, .int .i64 jd] 30))
    have BB := hid (Box2.new (w3.alloc (.cells #[.int .i64 ja, .int .i64 jb] 30)) jc jd 30 (w3.heap.size + 1) (by simp))
    have b3 := then_ hb b2 hb.size
    replace P1 := hid (P1.out.below b3)
    replace P2 := hid (P2.out.below b3)
    replace X3 := hid (X3.out.below b3)
    replace S0 := hid (then_ S0.out b3 S0.out.size)
    clear hb b2 b3 a1 ho LB2 LB x0 x1
    go_wp2_with fail
    generalize w3.heap.size = h at BA BB ⊢
    generalize (w3.alloc _).alloc _ = w4 at M3 BA BB P1 P2 X3 S0 ⊢
    obtain ⟨D, hD⟩ : ∃ D, doCrossB ms ja jb jc jd = D := ⟨_, rfl⟩
    obtain ⟨O, hO⟩ : ∃ O, leadOkB ms ja jb = O := ⟨_, rfl⟩
    obtain ⟨H, hH⟩ : ∃ H, shareF ja jb jc jd = H := ⟨_, rfl⟩
    have z := fun q => iCross_any v ms ja jb jc jd (mv w4 q) (M3.out.below (below_mv w4 q))
    rw [hD] at z
    have C1 := hid z
    clear z
    have z := fun q => iCross_any v ms jc jd ja jb (mv w4 q) (M3.out.below (below_mv w4 q))
    rw [doCross_comm ms ja jb jc jd, hD] at z
    have C2 := hid z
    clear z
    have z := fun q => iCross_any v ms ja jb ja jb (mv w4 q) (M3.out.below (below_mv w4 q))
    rw [doCross_self, hO] at z
    have C3 := hid z
    clear z
    have z := fun q => iLeadOk_any v ms ja jb (mv w4 q) (M3.out.below (below_mv w4 q))
    rw [hO] at z
    have C4 := hid z
    clear z
    have z := fun q => iShare_any ja jb jc jd (mv w4 q)
    rw [hH] at z
    have C5 := hid z
    clear z
    have z := fun q => iShare_any jc jd ja jb (mv w4 q)
    rw [share_comm ja jb jc jd, hH] at z
    have C6 := hid z
    clear z
    have n0 := fun q => (BA.out.mv q).c0
    have n1 := fun q => (BA.out.mv q).c1
    have n2 := fun q => (BB.out.mv q).c0
    have n3 := fun q => (BB.out.mv q).c1
    clear hD hO hH
    clear M3
    have k1 : (D != D) = false := by simp
    have k2 : (O != O) = false := by simp
    have k3 : (H != H) = false := by simp
    go_wp2_with fail
    refine wp_region_mv (by kernel_rfl) (by kernel_rfl) ?_
    repeat (go_big_quiet_step (first | (with_reducible exact calls_mv (C1.out _)) | (with_reducible exact calls_mv (C2.out _)) | (with_reducible exact calls_mv (C3.out _)) | (with_reducible exact calls_mv (C4.out _)) | (with_reducible exact calls_mv (C5.out _)) | (with_reducible exact calls_mv (C6.out _))))
    refine wpQuiet_nil ?_
    intro _ hw'
    obtain ⟨q, hw''⟩ := hw'
    subst hw''
    clear n0 n1 n2 n3 C1 C2 C3 C4 C5 C6 k1 k2 k3 BA BB
    replace P1 := hid (P1.out.below (below_mv w4 q))
    replace P2 := hid (P2.out.below (below_mv w4 q))
    replace X3 := hid (X3.out.below (below_mv w4 q))
    replace S0 := hid (then_ S0.out (below_mv w4 q) S0.out.size)
    generalize mv w4 q = w5 at P1 P2 X3 S0 ⊢
    have x0 := X3.out.c0
    have x1 := X3.out.c1
    obtain ⟨z1, z12, l20⟩ := win_len HW.out
    have LR := hid (fun k h => lead_round (ns := ns) (ls := ls) HW.out (k := k) h)
    go_wp2_with fail
    clear x0 x1
    go_loopw [7] (fun j wr => ∃ k : Nat, k ≤ ls.length ∧ j = .int .i64 k ∧ Hid (Below w5.heap.size w5 wr)) (fun j _ => ls.length - (intOf j).toNat)
    case atStart => exact ⟨0, Nat.zero_le _, rfl, hid (Below.refl _ _)⟩
    case round =>
      obtain ⟨k, hk, rfl, HB⟩ := hrel
      have Q1 := hid (P1.out.below HB.out)
      have Q2 := hid (P2.out.below HB.out)
      have Y3 := hid (X3.out.below HB.out)
      have x0 := Y3.out.c0
      have x1 := Y3.out.c1
      by_cases hlt : k < ls.length
      · have hk0 : (0 : Int) ≤ (k : Int) := by omega
        have hk1 : (k : Int) < (ls.length : Int) := by omega
        obtain ⟨f, u, e1, f1, f2, r1, r2, r3, r4, r5, r6⟩ := LR.out k hlt
        have R6 := hid r6
        clear r6
        obtain ⟨⟨fx, fy⟩, ef⟩ : ∃ p, ns[f]? = some p := ⟨_, List.getElem?_eq_getElem (by omega)⟩
        obtain ⟨⟨ux, uy⟩, eu⟩ : ∃ p, ns[u]? = some p := ⟨_, List.getElem?_eq_getElem f2⟩
        rw [ptN_of ef] at r2
        rw [ptN_of eu] at r3
        obtain ⟨A8, c8, hv8, _, _, hc8⟩ := id Q1.out
        injection hv8 with hv8 _ hcc
        subst hv8
        clear hcc
        obtain ⟨nb, no, hA, u1, u2, u3⟩ := hc8 f fx fy ef
        subst hA
        obtain ⟨nb2, no2, y1, _, y2, y3⟩ := hc8 u ux uy eu
        injection y1 with y1
        injection y1 with y1 y4 _
        subst y1 y4
        obtain ⟨A8, c8, hv8, _, _, hd8⟩ := id Q2.out
        injection hv8 with hv8 _ hcc
        subst hv8
        clear hcc
        obtain ⟨lb, lo, hA, v1, v2, v3⟩ := hd8 k (f : Int) (u : Int) e1
        subst hA
        have hf0 : (0 : Int) ≤ (f : Int) := by omega
        have hf1 : (f : Int) < (ns.length : Int) := by omega
        have hu0 : (0 : Int) ≤ (u : Int) := by omega
        have hu1 : (u : Int) < (ns.length : Int) := by omega
        clear hc8 hd8 ef eu e1
        have BX := hid (Box2.new wr (f : Int) (u : Int) 30 wr.heap.size rfl)
        have b6 : Below wr.heap.size wr (wr.alloc (.cells #[.int .i64 (f : Int), .int .i64 (u : Int)] 30)) := (Below.refl _ _).alloc (Nat.le_refl _) _
        have g1 := Nat.lt_of_lt_of_le u1 b6.size
        have c2 := (b6.cell (p := ⟨nb, no + f * 2, none⟩) u1).trans u2
        have c3 := (b6.cell (p := ⟨nb, no + f * 2 + 1, none⟩) u1).trans u3
        have c4 := (b6.cell (p := ⟨nb, no + u * 2, none⟩) u1).trans y2
        have c5 := (b6.cell (p := ⟨nb, no + u * 2 + 1, none⟩) u1).trans y3
        have T1 := hid (Q1.out.below b6)
        have T2 := hid (Q2.out.below b6)
        have Z3 := hid (Y3.out.below b6)
        have HC := hid (then_ HB.out b6 HB.out.size)
        clear b6 u1 u2 u3 y2 y3
        go_wp2_with fail
        clear x0 x1 v2 v3
        generalize wr.heap.size = gx at BX ⊢
        generalize wr.alloc _ = w6 at BX g1 c2 c3 c4 c5 T1 T2 Z3 HC ⊢
        have z := fun q => iLeadOk_any _ ns (f : Int) (u : Int) (mv w6 q) (T1.out.below (below_mv w6 q))
        rw [r1] at z
        have C1 := hid z
        clear z
        have z := fun q => iOn_any _ ns (f : Int) (u : Int) fx fy (mv w6 q) (T1.out.below (below_mv w6 q))
        rw [r2] at z
        have C2 := hid z
        clear z
        have z := fun q => iOn_any _ ns (f : Int) (u : Int) ux uy (mv w6 q) (T1.out.below (below_mv w6 q))
        rw [r3] at z
        have C3 := hid z
        clear z
        have z := fun q => iOther_any (f : Int) (u : Int) (f : Int) (mv w6 q)
        rw [r4] at z
        have C4 := hid z
        clear z
        have z := fun q => iOther_any (f : Int) (u : Int) (u : Int) (mv w6 q)
        rw [r5] at z
        have C5 := hid z
        clear z
        clear r1 r2 r3 r4 r5
        have n0 := fun q => (Z3.out.mv q).c0
        have n1 := fun q => (Z3.out.mv q).c1
        have n2 := fun q => (BX.out.mv q).c0
        have n3 := fun q => (BX.out.mv q).c1
        have n4 : ∀ q, (mv w6 q).cell? ⟨nb, no + f * 2, none⟩ = some (.int .i64 fx) := fun q => ((below_mv w6 q).cell (p := ⟨nb, no + f * 2, none⟩) g1).trans c2
        have n5 : ∀ q, (mv w6 q).cell? ⟨nb, no + f * 2 + 1, none⟩ = some (.int .i64 fy) := fun q => ((below_mv w6 q).cell (p := ⟨nb, no + f * 2 + 1, none⟩) g1).trans c3
        have n6 : ∀ q, (mv w6 q).cell? ⟨nb, no + u * 2, none⟩ = some (.int .i64 ux) := fun q => ((below_mv w6 q).cell (p := ⟨nb, no + u * 2, none⟩) g1).trans c4
        have n7 : ∀ q, (mv w6 q).cell? ⟨nb, no + u * 2 + 1, none⟩ = some (.int .i64 uy) := fun q => ((below_mv w6 q).cell (p := ⟨nb, no + u * 2 + 1, none⟩) g1).trans c5
        clear c2 c3 c4 c5
        refine wp_region_mv (by kernel_rfl) (by kernel_rfl) ?_
        repeat (go_big_quiet_step (first | (with_reducible exact calls_mv (C1.out _)) | (with_reducible exact calls_mv (C2.out _)) | (with_reducible exact calls_mv (C3.out _)) | (with_reducible exact calls_mv (C4.out _)) | (with_reducible exact calls_mv (C5.out _))))
        refine wpQuiet_nil ?_
        intro _ hw'
        obtain ⟨q, hw''⟩ := hw'
        subst hw''
        clear n0 n1 n2 n3 n4 n5 n6 n7 C1 C2 C3 C4 C5
        replace T1 := hid (T1.out.below (below_mv w6 q))
        replace T2 := hid (T2.out.below (below_mv w6 q))
        replace Z3 := hid (Z3.out.below (below_mv w6 q))
        replace HC := hid (then_ HC.out (below_mv w6 q) HC.out.size)
        replace BX := hid (BX.out.below (below_mv w6 q))
        generalize mv w6 q = w7 at T1 T2 Z3 HC BX ⊢
        go_wp2_with fail
        go_loopw [9] (fun j wr => ∃ i : Nat, i ≤ k ∧ j = .int .i64 i ∧ Hid (Below w7.heap.size w7 wr)) (fun j _ => k - (intOf j).toNat)
        case atStart => exact ⟨0, Nat.zero_le _, rfl, hid (Below.refl _ _)⟩
        case round =>
          obtain ⟨i, hi, rfl, HD⟩ := hrel
          by_cases hil : i < k
          · have V1 := hid (T1.out.below HD.out)
            have V2 := hid (T2.out.below HD.out)
            have V3 := hid (Z3.out.below HD.out)
            have BY := hid (BX.out.below HD.out)
            have hi0 : (0 : Int) ≤ (i : Int) := by omega
            have hi1 : (i : Int) < (k : Int) := by omega
            have hi2 : (i : Int) < (ls.length : Int) := by omega
            obtain ⟨a, b, e, hc⟩ := R6.out i hil
            obtain ⟨A8, c8, hv8, _, _, hd8⟩ := id V2.out
            injection hv8 with hv8 _ hcc
            subst hv8
            clear hcc
            obtain ⟨lb2, lo2, y1, v1, v2, v3⟩ := hd8 i a b e
            injection y1 with y1
            injection y1 with y1 y4 _
            subst y1 y4
            clear hd8 e
            have z := fun q => iCross_any _ ns (f : Int) (u : Int) a b (mv wr q) (V1.out.below (below_mv wr q))
            rw [hc] at z
            have C1 := hid z
            clear z hc
            have n0 := fun q => (V3.out.mv q).c0
            have n1 := fun q => (V3.out.mv q).c1
            have n2 := fun q => (BY.out.mv q).c0
            have n3 := fun q => (BY.out.mv q).c1
            have n4 : ∀ q, (mv wr q).cell? ⟨lb, lo + i * 2, none⟩ = some (.int .i64 a) := fun q => ((below_mv wr q).cell (p := ⟨lb, lo + i * 2, none⟩) v1).trans v2
            have n5 : ∀ q, (mv wr q).cell? ⟨lb, lo + i * 2 + 1, none⟩ = some (.int .i64 b) := fun q => ((below_mv wr q).cell (p := ⟨lb, lo + i * 2 + 1, none⟩) v1).trans v3
            clear v2 v3
            go_wp2_with fail
            refine wp_region_mv (by kernel_rfl) (by kernel_rfl) ?_
            repeat (go_big_quiet_step (first | (with_reducible exact calls_mv (C1.out _))))
            refine wpQuiet_nil ?_
            intro _ hw'
            obtain ⟨q, hw''⟩ := hw'
            subst hw''
            have HD9 := hid (then_ HD.out (below_mv wr q) HD.out.size)
            clear n0 n1 n2 n3 n4 n5 C1
            generalize mv wr q = wr at HD9 ⊢
            go_wp2
            go_roundw
            case rel => exact ⟨i + 1, by omega, by go_num, HD9⟩
            case measure => simp [intOf]; omega
          · have he : i = k := by omega
            subst he
            have HB9 := hid (then_ HC.out HD.out HC.out.size)
            go_wp2
            go_roundw
            case rel => exact ⟨i + 1, by omega, by go_num, HB9⟩
            case measure => simp [intOf]; omega
      · have he : k = ls.length := by omega
        subst he
        have SF := hid (then_ S0.out HB.out S0.out.size)
        have O1 := hid (fun W => iOther_any 1 2 3 W)
        have O2 := hid (fun W => iShare_any 1 2 2 3 W)
        go_wp2_with fail
        refine (O1.out _).mono ?_
        rintro e w8 ⟨rfl, hb⟩
        rw [other_no]
        replace SF := hid (then_ SF.out hb SF.out.size)
        clear hb
        go_wp2_with fail
        refine (O2.out _).mono ?_
        rintro e w9 ⟨rfl, hb⟩
        rw [share_yes]
        replace SF := hid (then_ SF.out hb SF.out.size)
        clear hb
        go_wp2
        go_ret
        exact ⟨rfl, SF.out⟩
end Go.Proofs.Ytbijbohkpjnjnaa

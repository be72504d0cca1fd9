/- The walk of the law FnAround: it returns true whatever bytes it draws from. No condition. -/
import Derived.Test.YtmkgdilabpehlaaDrawW
import Derived.Test.YtmkgdilabpehlaaAroundL
namespace Go.Proofs.Ytmkgdilabpehlaa
open Go.ChangeShapes Go.WideShapes Go.ChangeAt Go.RowKit
set_option maxHeartbeats 6000000
set_option maxRecDepth 100000
set_option linter.unusedSimpArgs false
set_option linter.unusedVariables false
theorem twin_six : twinF 6 = 7 := by simp [twinF, inB]
theorem FnAround_walk (w : World) (A : Option Addr) (n c : Nat) (hb : LoBytes w A n) (hn : n ≤ maxLen) : Calls Try.prog 12 #[.slice A n c] w fun e w' => e = .returned (.bool true) ∧ Below w.heap.size w w' := by
  have LB := hid hb
  clear hb
  by_cases hbig : 1048576 < n
  · have hd : decide (1048576 < n) = true := by simpa using hbig
    have BG := hid (big_any A n c w hn)
    rw [hd] at BG
    go_enter Try.func12, Try.ntmps12
    go_wp2_with fail
    refine BG.out.mono ?_
    rintro e w' ⟨rfl, rfl⟩
    go_wp2
    go_ret
    exact ⟨rfl, Below.refl _ _⟩
  · have hd : decide (1048576 < n) = false := by simpa using hbig
    have BG := hid (big_any A n c w hn)
    rw [hd] at BG
    clear hd
    go_enter Try.func12, Try.ntmps12
    go_wp2_with fail
    refine BG.out.mono ?_
    rintro e w' ⟨rfl, rfl⟩
    go_wp2_with fail
    refine (drawWindow_any A n c _ LB.out (by omega)).mono ?_
    rintro e w1 ⟨p1, p2, ns, ls, rfl, o1, o2, hw, hb1⟩
    obtain ⟨A1, c1, rfl⟩ := o1.form
    obtain ⟨A2, c2, rfl⟩ := o2.form
    have a1 : Below w1.heap.size w1 (w1.alloc (.cells #[.slice A1 ns.length c1, .slice A2 ls.length c2] 31)) := (Below.refl _ _).alloc (Nat.le_refl _) _
    have P1 := hid (o1.below a1).pairs
    have P2 := hid (o2.below a1).pairs
    have X3 := hid (BoxV.new w1 (.slice A1 ns.length c1) (.slice A2 ls.length c2) 31 w1.heap.size rfl)
    have S0 := hid (then_ hb1 a1 hb1.size)
    have HW := hid hw
    have x0 := X3.out.c0
    have x1 := X3.out.c1
    clear hb1 o1 o2 a1 BG
    go_wp2_with fail
    generalize w1.heap.size = g at X3 x0 x1 ⊢
    generalize w1.alloc _ = w2 at P1 P2 X3 S0 x0 x1 ⊢
    obtain ⟨n1, n12, l20⟩ := win_len HW.out
    have TB := hid (fun k => tot_bd (ns := ns) (ls := ls) HW.out k)
    have HLS := hid (show ls.length ≤ 1048576 by omega)
    go_wp2_with fail
    go_loopw [4, 5] (fun s j wr => ∃ k : Nat, k ≤ ns.length ∧ j = .int .i64 k ∧ (∃ T : Int, 0 ≤ T ∧ T ≤ 480 ∧ s = .int .i64 T ∧ Hid (T = ((tot ls k : Nat) : Int))) ∧ Hid (Below w2.heap.size w2 wr)) (fun _ j _ => ns.length - (intOf j).toNat)
    case atStart => exact ⟨0, Nat.zero_le _, rfl, ⟨0, by omega, by omega, rfl, hid rfl⟩, hid (Below.refl _ _)⟩
    case round =>
      obtain ⟨k, hk, rfl, ⟨tt, t0, t1, rfl, HT⟩, HB⟩ := hrel
      have Q1 := hid (P1.out.below HB.out)
      have Q2 := hid (P2.out.below HB.out)
      have Y3 := hid (X3.out.below HB.out)
      clear x0 x1
      have x0 := Y3.out.c0
      have x1 := Y3.out.c1
      by_cases hlt : k < ns.length
      · have hk0 : (0 : Int) ≤ (k : Int) := by omega
        have hk1 : (k : Int) < (ns.length : Int) := by omega
        go_wp2_with fail
        refine (iAN_any _ _ ns ls (k : Int) _ Q1.out Q2.out).mono ?_
        rintro e w5 ⟨v, rfl, hI, hb⟩
        rw [anF_is HW.out hlt] at hI
        have hln := around_len ns ls (k : Int)
        obtain ⟨A9, c9, rfl, _, hc9⟩ := hI.ints (by omega)
        replace Q1 := hid (Q1.out.below hb)
        replace Q2 := hid (Q2.out.below hb)
        replace Y3 := hid (Y3.out.below hb)
        replace HB := hid (then_ HB.out hb HB.out.size)
        have CL := hid hc9
        have AT := hid (fun i h => around_at (ns := ns) (ls := ls) HW.out hlt (i := i) h)
        have BF := hid (fun i h0 h => around_bef (ns := ns) (ls := ls) HW.out hlt (i := i) h0 h)
        have TN := hid (tot_next ns ls k)
        have tb := TB.out (k + 1)
        have hlk : (aroundF ns ls (k : Int)).length ≤ 40 := by omega
        have tk : tt + ((aroundF ns ls (k : Int)).length : Int) ≤ 480 := by have := TN.out; have := HT.out; omega
        generalize aroundF ns ls (k : Int) = l at CL AT BF TN hlk tk ⊢
        clear hI hb hc9 hln tb x0 x1
        have x0 := Y3.out.c0
        have x1 := Y3.out.c1
        go_wp2_with fail
        go_loopw [7] (fun j wr => ∃ i : Nat, i ≤ l.length ∧ j = .int .i64 i ∧ Hid (Below w5.heap.size w5 wr)) (fun j _ => l.length - (intOf j).toNat)
        case atStart => exact ⟨0, Nat.zero_le _, rfl, hid (Below.refl _ _)⟩
        case round =>
          obtain ⟨i, hi, rfl, HC⟩ := hrel
          have CL2 := hid (fun j x h => by obtain ⟨b, off, h1, h2, h3⟩ := CL.out j x h; exact (⟨b, off, h1, Nat.lt_of_lt_of_le h2 HC.out.size, (HC.out.cell (p := ⟨b, _, none⟩) h2).trans h3⟩ : ∃ b off, A9 = some ⟨b, off, none⟩ ∧ b < _ ∧ World.cell? _ ⟨b, off + j, none⟩ = some (.int .i64 x)))
          have R1 := hid (Q1.out.below HC.out)
          have R2 := hid (Q2.out.below HC.out)
          have Z3 := hid (Y3.out.below HC.out)
          clear x0 x1
          by_cases hil : i < l.length
          · obtain ⟨e, x, h1, h2, h3, h4, h5, h6, h7⟩ := AT.out i hil
            have hi0 : (0 : Int) ≤ (i : Int) := by omega
            have hi1 : (i : Int) < (l.length : Int) := by omega
            obtain ⟨m, hm⟩ : ∃ m, m = (i + 1) % l.length := ⟨_, rfl⟩
            rw [← hm] at h3
            have hml : m < l.length := by rw [hm]; exact Nat.mod_lt _ (by omega)
            have hm0 : (0 : Int) ≤ (m : Int) := by omega
            have hm1 : (m : Int) < (l.length : Int) := by omega
            have hll : (l.length : Int) ≠ 0 := by omega
            have HM := hid hm
            obtain ⟨b, off, rfl, g1, g2⟩ := CL2.out i (e : Int) h1
            obtain ⟨b9, off9, g3, g4, g5⟩ := CL2.out m (x : Int) h3
            have g3 := Option.some.inj g3
            injection g3 with g3 g6 _
            subst g3 g6
            clear h1 h3 hm g4
            obtain ⟨j9, hj9⟩ : ∃ j9, j9 = i + 1 := ⟨_, rfl⟩
            have W1 := hid (show IntKind.i64.wrap ((i : Int) + 1) = (j9 : Int) by rw [IntWalk.i64_in _ (by omega)]; omega)
            have W3 := hid (show (j9 : Int) % (l.length : Int) = (m : Int) by rw [HM.out, hj9]; exact (Int.natCast_emod (i + 1) l.length).symm)
            have W2 := hid (show (j9 : Int).tmod (l.length : Int) = (m : Int) by rw [Int.tmod_eq_emod_of_nonneg (by omega)]; exact W3.out)
            have W4 := hid (show (0 : Int) ≤ (j9 : Int) by omega)
            clear hj9
            have z := fun q => iDF_any _ _ ns ls (e : Int) (mv wr q) (R1.out.below (below_mv wr q)) (R2.out.below (below_mv wr q)) HLS.out
            rw [h5] at z
            have DF := hid z
            clear z
            have z := fun q => iNext_any _ _ ns ls (e : Int) (mv wr q) (R1.out.below (below_mv wr q)) (R2.out.below (below_mv wr q)) HLS.out
            rw [h6] at z
            have NX := hid z
            clear z
            have z := fun q => iLast_any _ _ ns ls (x : Int) (mv wr q) (R1.out.below (below_mv wr q)) (R2.out.below (below_mv wr q)) HLS.out
            rw [h7] at z
            have LS := hid z
            clear z
            clear h5 h6 h7
            have n0 := fun q => (Z3.out.mv q).c0
            have n1 := fun q => (Z3.out.mv q).c1
            have n2 : ∀ q, (mv wr q).cell? ⟨b, off + i, none⟩ = some (.int .i64 (e : Int)) := fun q => ((below_mv wr q).cell (p := ⟨b, off + i, none⟩) g1).trans g2
            have n3 : ∀ q, (mv wr q).cell? ⟨b, off + m, none⟩ = some (.int .i64 (x : Int)) := fun q => ((below_mv wr q).cell (p := ⟨b, off + m, none⟩) g1).trans g5
            have v1 := W1.out
            have v3 := W3.out
            have v4 := W4.out
            clear g2 g5
            go_wp2_with fail
            refine wp_region_mv (by kernel_rfl) (by kernel_rfl) ?_
            repeat (go_big_quiet_step (first | (with_reducible exact calls_mv (DF.out _)) | (with_reducible exact calls_mv (NX.out _)) | (with_reducible exact calls_mv (LS.out _))))
            refine wpQuiet_nil ?_
            intro _ hw'
            obtain ⟨q, hw''⟩ := hw'
            subst hw''
            clear n0 n1 n2 n3 v1 v3 v4 W1 W2 W3 W4 DF NX LS
            have CL3 := hid (fun j x h => by obtain ⟨b, off, h1, h2, h3⟩ := CL2.out j x h; exact (⟨b, off, h1, Nat.lt_of_lt_of_le h2 (below_mv wr q).size, ((below_mv wr q).cell (p := ⟨b, _, none⟩) h2).trans h3⟩ : ∃ b9 off9, (some (⟨_, _, none⟩ : Addr)) = some ⟨b9, off9, none⟩ ∧ b9 < (mv wr q).heap.size ∧ World.cell? (mv wr q) ⟨b9, off9 + j, none⟩ = some (.int .i64 x)))
            replace HC := hid (then_ HC.out (below_mv wr q) HC.out.size)
            replace R1 := hid (R1.out.below (below_mv wr q))
            replace R2 := hid (R2.out.below (below_mv wr q))
            replace Z3 := hid (Z3.out.below (below_mv wr q))
            clear CL2 g1
            generalize mv wr q = wr at HC R1 R2 Z3 CL3 ⊢
            by_cases hpos : 0 < i
            · obtain ⟨d, e2, a, b2, j1, j2, j3, j4, j5, j6, j7⟩ := BF.out i hpos hil
              obtain ⟨j, hj⟩ : ∃ j, j = i - 1 := ⟨_, rfl⟩
              rw [← hj] at j1
              obtain ⟨b, off, q1, q2, q3⟩ := CL3.out j (d : Int) j1
              obtain ⟨b9, off9, q4, q5, q6⟩ := CL3.out i (e2 : Int) j2
              rw [q1] at q4
              injection q4 with q4
              injection q4 with q4 q7 _
              subst q4 q7
              injection q1 with q1
              injection q1 with q1 q7 _
              subst q1 q7
              have hjl : j < l.length := by omega
              have hj0 : (0 : Int) ≤ (j : Int) := by omega
              have hj1 : (j : Int) < (l.length : Int) := by omega
              have W1 := hid (show IntKind.i64.wrap ((i : Int) - 1) = (j : Int) by rw [IntWalk.i64_in _ (by omega)]; omega)
              obtain ⟨⟨kx, ky⟩, ek⟩ : ∃ p, ns[k]? = some p := ⟨_, List.getElem?_eq_getElem hlt⟩
              obtain ⟨⟨px, py⟩, ea⟩ : ∃ p, ns[a]? = some p := ⟨_, List.getElem?_eq_getElem j5⟩
              obtain ⟨⟨rx, ry⟩, eb⟩ : ∃ p, ns[b2]? = some p := ⟨_, List.getElem?_eq_getElem j6⟩
              rw [ptN_of ek, ptN_of ea, ptN_of eb] at j7
              obtain ⟨A8, c8, hv8, _, _, hc8⟩ := id R1.out
              injection hv8 with hv8 _ hcc
              subst hv8
              clear hcc
              obtain ⟨nb, no, hA, u1, u2, u3⟩ := hc8 k kx ky ek
              subst hA
              obtain ⟨nb2, no2, y1, _, y2, y3⟩ := hc8 a px py ea
              injection y1 with y1
              injection y1 with y1 y4 _
              subst y1 y4
              obtain ⟨nb3, no3, y1, _, y5, y6⟩ := hc8 b2 rx ry eb
              injection y1 with y1
              injection y1 with y1 y4 _
              subst y1 y4
              have ha0 : (0 : Int) ≤ (a : Int) := by omega
              have ha1 : (a : Int) < (ns.length : Int) := by omega
              have hb0 : (0 : Int) ≤ (b2 : Int) := by omega
              have hb1 : (b2 : Int) < (ns.length : Int) := by omega
              have z := fun q => sDT_any _ _ ns ls (d : Int) (mv wr q) (R1.out.below (below_mv wr q)) (R2.out.below (below_mv wr q)) HLS.out
              rw [j3] at z
              have D1 := hid z
              clear z
              have z := fun q => sDT_any _ _ ns ls (e2 : Int) (mv wr q) (R1.out.below (below_mv wr q)) (R2.out.below (below_mv wr q)) HLS.out
              rw [j4] at z
              have D2 := hid z
              clear z
              have z := fun q => sBef_any kx ky px py rx ry (mv wr q)
              rw [j7] at z
              have BE := hid z
              clear z
              clear hc8 ek ea eb j1 j2 j3 j4 j7 hj CL CL3
              have n0 := fun q => (Z3.out.mv q).c0
              have n1 := fun q => (Z3.out.mv q).c1
              have n2 : ∀ q, (mv wr q).cell? ⟨b, off + j, none⟩ = some (.int .i64 (d : Int)) := fun q => ((below_mv wr q).cell (p := ⟨b, off + j, none⟩) q2).trans q3
              have n3 : ∀ q, (mv wr q).cell? ⟨b, off + i, none⟩ = some (.int .i64 (e2 : Int)) := fun q => ((below_mv wr q).cell (p := ⟨b, off + i, none⟩) q2).trans q6
              have m0 : ∀ q, (mv wr q).cell? ⟨nb, no + k * 2, none⟩ = some (.int .i64 kx) := fun q => ((below_mv wr q).cell (p := ⟨nb, no + k * 2, none⟩) u1).trans u2
              have m1 : ∀ q, (mv wr q).cell? ⟨nb, no + k * 2 + 1, none⟩ = some (.int .i64 ky) := fun q => ((below_mv wr q).cell (p := ⟨nb, no + k * 2 + 1, none⟩) u1).trans u3
              have m2 : ∀ q, (mv wr q).cell? ⟨nb, no + a * 2, none⟩ = some (.int .i64 px) := fun q => ((below_mv wr q).cell (p := ⟨nb, no + a * 2, none⟩) u1).trans y2
              have m3 : ∀ q, (mv wr q).cell? ⟨nb, no + a * 2 + 1, none⟩ = some (.int .i64 py) := fun q => ((below_mv wr q).cell (p := ⟨nb, no + a * 2 + 1, none⟩) u1).trans y3
              have m4 : ∀ q, (mv wr q).cell? ⟨nb, no + b2 * 2, none⟩ = some (.int .i64 rx) := fun q => ((below_mv wr q).cell (p := ⟨nb, no + b2 * 2, none⟩) u1).trans y5
              have m5 : ∀ q, (mv wr q).cell? ⟨nb, no + b2 * 2 + 1, none⟩ = some (.int .i64 ry) := fun q => ((below_mv wr q).cell (p := ⟨nb, no + b2 * 2 + 1, none⟩) u1).trans y6
              have hdt : decide ((0 : Int) < (i : Int)) = true := by simp; omega
              have v1 := W1.out
              clear q3 q6 u2 u3 y2 y3 y5 y6
              go_wp2_with fail
              refine wp_region_mv (by kernel_rfl) (by kernel_rfl) ?_
              repeat (go_big_quiet_step (first | (with_reducible exact calls_mv (D1.out _)) | (with_reducible exact calls_mv (D2.out _)) | (with_reducible exact calls_mv (BE.out _))))
              refine wpQuiet_nil ?_
              intro _ hw'
              obtain ⟨q, hw''⟩ := hw'
              subst hw''
              have HC9 := hid (then_ HC.out (below_mv wr q) HC.out.size)
              clear n0 n1 n2 n3 m0 m1 m2 m3 m4 m5 D1 D2 BE v1 W1 hdt
              generalize mv wr q = wr at HC9 ⊢
              go_wp2
              go_roundw
              case rel => exact ⟨i + 1, by omega, by go_num, HC9⟩
              case measure => simp [intOf]; omega
            · have hz : i = 0 := by omega
              subst hz
              clear BF AT CL CL3
              go_wp2_with fail
              have n0 := fun q => (Z3.out.mv q).c0
              have n1 := fun q => (Z3.out.mv q).c1
              refine wp_region_mv (by kernel_rfl) (by kernel_rfl) ?_
              repeat (go_big_quiet_step (fail))
              refine wpQuiet_nil ?_
              intro _ hw'
              obtain ⟨q, hw''⟩ := hw'
              subst hw''
              have HC9 := hid (then_ HC.out (below_mv wr q) HC.out.size)
              clear n0 n1
              generalize mv wr q = wr at HC9 ⊢
              go_wp2
              go_roundw
              case rel => exact ⟨0 + 1, by omega, by go_num, HC9⟩
              case measure => simp [intOf]; omega
          · have he : i = l.length := by omega
            subst he
            have HB9 := hid (then_ HB.out HC.out HB.out.size)
            clear AT BF CL CL2
            go_wp2
            go_roundw
            case rel => exact ⟨k + 1, by omega, by go_num, ⟨tt + (l.length : Int), by omega, by omega, rfl, hid (by rw [TN.out, HT.out]; omega)⟩, HB9⟩
            case measure => simp [intOf]; omega
      · have he : k = ns.length := by omega
        subst he
        obtain rfl : tt = 2 * (ls.length : Int) := by rw [HT.out, tot_all HW.out]; omega
        have DR := hid (fun d h => dart_round (ns := ns) (ls := ls) HW.out (d := d) h)
        clear HT TB Q1 Q2 Y3
        go_wp2_with fail
        go_loopw [8] (fun j wr => ∃ d : Nat, d ≤ 2 * ls.length ∧ j = .int .i64 d ∧ Hid (Below w2.heap.size w2 wr)) (fun j _ => 2 * ls.length - (intOf j).toNat)
        case atStart => exact ⟨0, Nat.zero_le _, rfl, HB⟩
        case round =>
          clear x0 x1 HB
          obtain ⟨d, hd, rfl, HC⟩ := hrel
          have R1 := hid (P1.out.below HC.out)
          have R2 := hid (P2.out.below HC.out)
          have Z3 := hid (X3.out.below HC.out)
          have x0 := Z3.out.c0
          have x1 := Z3.out.c1
          by_cases hdl : d < 2 * ls.length
          · obtain ⟨h1, h2, h3, a, b2, h4, h5, h6, h7, h8⟩ := DR.out d hdl
            have hd0 : (0 : Int) ≤ (d : Int) := by omega
            have hd1 : (d : Int) < 2 * (ls.length : Int) := by omega
            rw [h4] at h2
            replace h2 := h2.symm
            have z := fun W => iTwin_any (d : Int) W
            rw [h1] at z
            have TW := hid z
            clear z
            have z := fun q => iTwin_any ((twN d : Nat) : Int) (mv wr q)
            rw [h3] at z
            have TV := hid z
            clear z
            have z := fun q => iDF_any _ _ ns ls (d : Int) (mv wr q) (R1.out.below (below_mv wr q)) (R2.out.below (below_mv wr q)) HLS.out
            rw [h4] at z
            have D1 := hid z
            clear z
            have z := fun q => iDT_any _ _ ns ls ((twN d : Nat) : Int) (mv wr q) (R1.out.below (below_mv wr q)) (R2.out.below (below_mv wr q)) HLS.out
            rw [h2] at z
            have D2 := hid z
            clear z
            have z := fun q => sDF_any _ _ ns ls (d : Int) (mv wr q) (R1.out.below (below_mv wr q)) (R2.out.below (below_mv wr q)) HLS.out
            rw [h4] at z
            have D3 := hid z
            clear z
            have z := fun q => sDT_any _ _ ns ls (d : Int) (mv wr q) (R1.out.below (below_mv wr q)) (R2.out.below (below_mv wr q)) HLS.out
            rw [h5] at z
            have D4 := hid z
            clear z
            have z := fun q => iDB_any _ _ ns ls (a : Int) (b2 : Int) (mv wr q) (R1.out.below (below_mv wr q)) (R2.out.below (below_mv wr q))
            rw [h8] at z
            have D5 := hid z
            clear z
            clear h1 h2 h3 h4 h5 h8
            go_wp2_with fail
            refine (TW.out _).mono ?_
            rintro e w' ⟨rfl, rfl⟩
            generalize twN d = td at TV D2 ⊢
            clear x0 x1
            go_wp2_with fail
            have n0 := fun q => (Z3.out.mv q).c0
            have n1 := fun q => (Z3.out.mv q).c1
            refine wp_region_mv (by kernel_rfl) (by kernel_rfl) ?_
            repeat (go_big_quiet_step (first | (with_reducible exact calls_mv (D1.out _)) | (with_reducible exact calls_mv (D2.out _)) | (with_reducible exact calls_mv (D3.out _)) | (with_reducible exact calls_mv (D4.out _)) | (with_reducible exact calls_mv (D5.out _)) | (with_reducible exact calls_mv_same (TV.out _))))
            refine wpQuiet_nil ?_
            intro _ hw'
            obtain ⟨q, hw''⟩ := hw'
            subst hw''
            have HC9 := hid (then_ HC.out (below_mv wr q) HC.out.size)
            clear n0 n1 D1 D2 D3 D4 D5 TV TW
            generalize mv wr q = wr at HC9 ⊢
            go_wp2
            go_roundw
            case rel => exact ⟨d + 1, by omega, by go_num, HC9⟩
            case measure => simp [intOf]; omega
          · have he : d = 2 * ls.length := by omega
            subst he
            have SF := hid (then_ S0.out HC.out S0.out.size)
            have hlf : ¬ (((2 * ls.length : Nat) : Int) < 2 * (ls.length : Int)) := by omega
            go_wp2_with fail
            refine (iTwin_any 6 _).mono ?_
            rintro e w' ⟨rfl, rfl⟩
            rw [twin_six]
            go_wp2
            go_ret
            exact ⟨rfl, SF.out⟩
end Go.Proofs.Ytmkgdilabpehlaa

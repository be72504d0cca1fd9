/- The walk of the law FnFaces: it returns true whatever bytes it draws from. No condition. -/
import Derived.Test.YtdhppajfdcfikaaDrawHG
import Derived.Test.YtdhppajfdcfikaaM9
namespace Go.Proofs.Ytdhppajfdcfikaa
open Go.ChangeShapes Go.WideShapes Go.ChangeAt Go.RowKit
set_option maxHeartbeats 3000000
set_option maxRecDepth 100000
set_option linter.unusedSimpArgs false
set_option linter.unusedVariables false
theorem sample_total : taF smpN smpL = 128 := by kernel_rfl
theorem FnFaces_walk (w : World) (A : Option Addr) (n c : Nat) (hb : LoBytes w A n) (hn : n ≤ maxLen) : Calls Try.prog 13 #[.slice A n c] w fun e w' => e = .returned (.bool true) ∧ Below w.heap.size w w' := by
  have LB := hid hb
  clear hb
  by_cases hbig : 1048576 < n
  · have hd : decide (1048576 < n) = true := by simpa using hbig
    have BG := hid (big_any A n c w hn)
    rw [hd] at BG
    go_enter Try.func13, Try.ntmps13
    go_wp2_with fail
    refine BG.out.mono ?_
    rintro e w' ⟨rfl, rfl⟩
    go_wp2
    go_ret
    exact ⟨rfl, Below.refl _ _⟩
  · have hd : decide (1048576 < n) = false := by simpa using hbig
    have BG := hid (big_any A n c w hn)
    rw [hd] at BG
    clear hd
    go_enter Try.func13, Try.ntmps13
    go_wp2_with fail
    refine BG.out.mono ?_
    rintro e w' ⟨rfl, rfl⟩
    go_wp2_with fail
    refine (drawWhole_any A n c _ LB.out (by omega)).mono ?_
    rintro e w1 ⟨p1, p2, ns, ls, rfl, o1, o2, hw, hb1⟩
    obtain ⟨A1, c1, rfl⟩ := o1.form
    obtain ⟨A2, c2, rfl⟩ := o2.form
    have a1 : Below w1.heap.size w1 (w1.alloc (.cells #[.slice A1 ns.length c1, .slice A2 ls.length c2] 31)) := (Below.refl _ _).alloc (Nat.le_refl _) _
    have P1 := hid (o1.below a1).pairs
    have P2 := hid (o2.below a1).pairs
    have X3 := hid (BoxV.new w1 (.slice A1 ns.length c1) (.slice A2 ls.length c2) 31 w1.heap.size rfl)
    have S0 := hid (then_ hb1 a1 hb1.size)
    have HW := hid hw
    have x0 := X3.out.c0
    have x1 := X3.out.c1
    clear hb1 o1 o2 a1 BG
    go_wp2_with fail
    generalize w1.heap.size = g at X3 x0 x1 ⊢
    generalize w1.alloc _ = w2 at P1 P2 X3 S0 x0 x1 ⊢
    refine (iFaces_any _ _ ns ls _ P1.out P2.out).mono ?_
    rintro e w3 ⟨v, rfl, ho, hb⟩
    have SS := hid (faces_ss ho)
    obtain ⟨A9, c9, hv9, hm9, _⟩ := id SS.out
    subst hv9
    replace P1 := hid (P1.out.below hb)
    replace P2 := hid (P2.out.below hb)
    replace X3 := hid (X3.out.below hb)
    replace S0 := hid (then_ S0.out hb S0.out.size)
    clear ho hb x0 x1
    have x0 := X3.out.c0
    have x1 := X3.out.c1
    go_wp2_with fail
    refine (iOF_any _ _ ns ls _ P1.out P2.out).mono ?_
    rintro e w4 ⟨rfl, hb⟩
    replace P1 := hid (P1.out.below hb)
    replace P2 := hid (P2.out.below hb)
    replace X3 := hid (X3.out.below hb)
    replace S0 := hid (then_ S0.out hb S0.out.size)
    replace SS := hid (SS.out.below hb)
    clear hb x0 x1
    obtain ⟨k0, hk0, hof, hone⟩ := outer_is hw
    have HONE := hid hone
    have HALL := hid (And.intro (smA_all hw hk0 hof hone) (smD_all hw))
    have HEAD := hid (fun i l h => face_head hw (i := i) (l := l) h)
    have SMALL := hid (fun i l h => area_small (ns := ns) (ls := ls) (i := i) (l := l) h)
    have AB := hid (fun i h => smA_bd ns ls k0 i h)
    have DB := hid (fun i h => smD_bd ns ls i h)
    have AS := hid (fun i h => smA_same (ns := ns) (ls := ls) (k := k0) (i := i) h)
    have AN := hid (fun i l h hx => smA_next (ns := ns) (ls := ls) (k := k0) (i := i) (l := l) h hx)
    have DN := hid (fun i l hx => smD_next (ns := ns) (ls := ls) (i := i) (l := l) hx)
    have AO := hid (show ∀ (i : Nat) (l : List Int), (facesF ns ls)[i]? = some l → aoF ns ls (i : Int) = absI (areaL ns ls l) from fun i l hx => by
      have hi : i < (facesF ns ls).length := by
        rcases Nat.lt_or_ge i (facesF ns ls).length with q | q
        · exact q
        · rw [List.getElem?_eq_none q] at hx; cases hx
      unfold aoF
      rw [if_pos (by unfold inB; simp only [decide_eq_true_iff]; omega)]
      simp [List.getD, hx])
    have hok := (whole_win hw).1
    have hlen := win_len hok
    have HLEN := hid hlen
    rw [hof]
    have hk1 : (0 : Int) ≤ (k0 : Int) := by omega
    have hk2 : (k0 : Int) < ((facesF ns ls).length : Int) := by omega
    generalize facesF ns ls = fs at SS hm9 hk0 hk2 HONE HALL HEAD SMALL AB DB AN DN AO ⊢
    clear hw hof hone hok hlen
    go_wp2_with fail
    go_loopw [6, 7, 8] (fun s d j wr => ∃ i : Nat, i ≤ fs.length ∧ j = .int .i64 i ∧ s = .int .i64 (smA ns ls k0 i) ∧ d = .int .i64 (smD ns ls i) ∧ Hid (Below w4.heap.size w4 wr)) (fun _ _ j _ => fs.length - (intOf j).toNat)
    case atStart => exact ⟨0, Nat.zero_le _, rfl, rfl, rfl, hid (Below.refl _ _)⟩
    case round =>
      obtain ⟨i, hi, rfl, rfl, rfl, HB⟩ := hrel
      have Q1 := hid (P1.out.below HB.out)
      have Q2 := hid (P2.out.below HB.out)
      have Y3 := hid (X3.out.below HB.out)
      have TT := hid (SS.out.below HB.out)
      by_cases hlt : i < fs.length
      · have hi0 : (0 : Int) ≤ (i : Int) := by omega
        have hi1 : (i : Int) < (fs.length : Int) := by omega
        obtain ⟨l, hx⟩ : ∃ l, fs[i]? = some l := ⟨_, List.getElem?_eq_getElem hlt⟩
        obtain ⟨d, hd, hd0, hl0, hl40, hwa, hfa⟩ := HEAD.out i l hx
        have HX := hid hx
        obtain ⟨A8, c8, hv8, _, hc8⟩ := TT.out
        obtain ⟨b, off, u, hA, hbb, hcell, hI⟩ := hc8 i l hx
        have hAA : A9 = A8 := by injection hv8
        rw [← hAA] at hA
        subst hA
        obtain ⟨Au, cu, hu, _, hIc⟩ := id hI
        subst hu
        obtain ⟨bu, ou, hAu, hbu, hcu⟩ := hIc 0 (d : Int) hd0
        subst hAu
        have sm1 := SMALL.out i l hx
        have hone := HONE.out i l hx
        have hao := AO.out i l hx
        have hdn := DN.out i l hx
        have han := fun h => AN.out i l h hx
        have hll : (l.length : Int) ≠ 0 := by omega
        have hlp : 0 < l.length := hl0
        have WA := hid hwa
        have FA := hid hfa
        have HDN := hid hdn
        clear hv8 hc8 hAA hI hIc hx hd0 hwa hfa hdn
        generalize areaL ns ls l = a at sm1 hone hao WA han
        have HAN := hid han
        have HAO := hid hao
        have HON := hid hone
        clear han hao hone
        have cu0 : wr.cell? ⟨bu, ou, none⟩ = some (.int .i64 d) := by simpa using hcu
        have hls : ls.length ≤ 1048576 := by have := HLEN.out; omega
        have z := fun q => sWA_any _ _ ns ls (d : Int) (mv wr q) (Q1.out.below (below_mv wr q)) (Q2.out.below (below_mv wr q)) hls
        rw [WA.out] at z
        have CE := hid z
        clear z
        have n0 := fun q => (Y3.out.mv q).c0
        have n1 := fun q => (Y3.out.mv q).c1
        have n2 : ∀ q, (mv wr q).cell? ⟨b, off + i, none⟩ = some (.slice (some ⟨bu, ou, none⟩) l.length cu) := fun q => ((below_mv wr q).cell (p := ⟨b, _, none⟩) hbb).trans hcell
        have n3 : ∀ q, (mv wr q).cell? ⟨bu, ou, none⟩ = some (.int .i64 d) := fun q => ((below_mv wr q).cell (p := ⟨bu, _, none⟩) hbu).trans cu0
        have lr : ∀ q, bu < (mv wr q).heap.size := fun q => Nat.lt_of_lt_of_le hbu (below_mv wr q).size
        have db := DB.out i hi
        have ab := AB.out i hi
        go_wp2_with fail
        refine wp_region_mv (by kernel_rfl) (by kernel_rfl) ?_
        repeat (go_big_quiet_step ((with_reducible exact calls_mv (CE.out _))))
        refine wpQuiet_nil ?_
        intro _ hw'
        obtain ⟨q, hw''⟩ := hw'
        subst hw''
        have HB2 := hid (then_ HB.out (below_mv wr q) HB.out.size)
        replace Q1 := hid (Q1.out.below (below_mv wr q))
        replace Q2 := hid (Q2.out.below (below_mv wr q))
        replace Y3 := hid (Y3.out.below (below_mv wr q))
        have hcell2 := n2 q
        have hcu2 := n3 q
        have hbb2 : b < (mv wr q).heap.size := Nat.lt_of_lt_of_le hbb (below_mv wr q).size
        have hbu2 := lr q
        clear n0 n1 n2 n3 lr hcell hcu cu0 hbb hbu CE
        generalize mv wr q = wr at HB2 Q1 Q2 Y3 hcell2 hcu2 hbb2 hbu2 ⊢
        have n0 := fun q => (Y3.out.mv q).c0
        have n1 := fun q => (Y3.out.mv q).c1
        have n2 : ∀ q, (mv wr q).cell? ⟨b, off + i, none⟩ = some (.slice (some ⟨bu, ou, none⟩) l.length cu) := fun q => ((below_mv wr q).cell (p := ⟨b, _, none⟩) hbb2).trans hcell2
        have n3 : ∀ q, (mv wr q).cell? ⟨bu, ou, none⟩ = some (.int .i64 d) := fun q => ((below_mv wr q).cell (p := ⟨bu, _, none⟩) hbu2).trans hcu2
        have z := fun q => iFA_any _ _ ns ls (d : Int) (mv wr q) (Q1.out.below (below_mv wr q)) (Q2.out.below (below_mv wr q))
        rw [FA.out] at z
        have CF := hid z
        clear z
        have z := fun q => iAO_any _ _ ns ls (i : Int) (mv wr q) (Q1.out.below (below_mv wr q)) (Q2.out.below (below_mv wr q))
        rw [HAO.out] at z
        have CE := hid z
        clear z
        have hc : (i ≠ k0 ∧ 0 < a) ∨ (i = k0 ∧ a < 0) ∨ (i = k0 ∧ a = 0) := by have := HON.out; omega
        have SA := hid (AS.out i)
        skip
        rcases hc with ⟨hik, hap⟩ | ⟨hik, hap⟩ | ⟨hik, rfl⟩
        · have hab : absI a = a := by unfold absI; rw [if_neg (by omega)]
          rw [hab] at CE
          have e0 := hid (HAN.out hik)
          have e1 : decide (a ≤ 0) = false := by simp; omega
          have e2 : ((i : Int) == (k0 : Int)) = false := by simp; omega
          have e3 : (i == k0) = false := by simp; omega
          have e4 : ((i : Int) != (k0 : Int)) = true := by simp; omega
          have e5 : (i != k0) = true := by simp; omega
          have e6 : decide (i = k0) = false := by simp; omega
          have e7 := hid (show IntKind.i64.wrap (-a) = -a from IntWalk.i64_in _ (by omega))
          have e8 : max a (-a) = a := by omega
          have v7 := e7.out
          clear hab
          go_wp2_with fail
          refine wp_region_mv (by kernel_rfl) (by kernel_rfl) ?_
          repeat (go_big_quiet_step (first | (with_reducible exact calls_mv (CE.out _)) | (with_reducible exact calls_mv (CF.out _))))
          refine wpQuiet_nil ?_
          intro _ hw'
          obtain ⟨q, hw''⟩ := hw'
          subst hw''
          have HB9 := hid (then_ HB2.out (below_mv wr q) HB2.out.size)
          clear n0 n1 n2 n3 CE CF v7 e7
          generalize mv wr q = wr at HB9 ⊢
          go_wp2
          go_roundw
          case rel => exact ⟨i + 1, by omega, by go_num, by rw [e0.out], by rw [HDN.out], HB9⟩
          case measure => simp [intOf]; omega
        all_goals
          have e0 := hid (SA.out hik)
          have e2 : ((i : Int) == (k0 : Int)) = true := by simp; omega
          have e3 : (i == k0) = true := by simp; omega
          have e4 : ((i : Int) != (k0 : Int)) = false := by simp; omega
          have e5 : (i != k0) = false := by simp; omega
          have e6 : decide (i = k0) = true := by simp; omega
          have HIK := hid hik
          clear hik
        · have hab : absI a = -a := by unfold absI; rw [if_pos hap]
          rw [hab] at CE
          have e1 : decide (a ≤ 0) = true := by simp; omega
          have e7 := hid (show IntKind.i64.wrap (-a) = -a from IntWalk.i64_in _ (by omega))
          have e8 : max a (-a) = -a := by omega
          have v7 := e7.out
          clear hab
          go_wp2_with fail
          refine wp_region_mv (by kernel_rfl) (by kernel_rfl) ?_
          repeat (go_big_quiet_step (first | (with_reducible exact calls_mv (CE.out _)) | (with_reducible exact calls_mv (CF.out _))))
          refine wpQuiet_nil ?_
          intro _ hw'
          obtain ⟨q, hw''⟩ := hw'
          subst hw''
          have HB9 := hid (then_ HB2.out (below_mv wr q) HB2.out.size)
          clear n0 n1 n2 n3 CE CF v7 e7
          generalize mv wr q = wr at HB9 ⊢
          go_wp2
          go_roundw
          case rel => exact ⟨i + 1, by omega, by go_num, by rw [e0.out], by rw [HDN.out], HB9⟩
          case measure => simp [intOf]; omega
        · have hab : absI 0 = 0 := rfl
          rw [hab] at CE
          clear hab
          go_wp2_with fail
          refine wp_region_mv (by kernel_rfl) (by kernel_rfl) ?_
          repeat (go_big_quiet_step (first | (with_reducible exact calls_mv (CE.out _)) | (with_reducible exact calls_mv (CF.out _))))
          refine wpQuiet_nil ?_
          intro _ hw'
          obtain ⟨q, hw''⟩ := hw'
          subst hw''
          have HB9 := hid (then_ HB2.out (below_mv wr q) HB2.out.size)
          clear n0 n1 n2 n3 CE CF
          generalize mv wr q = wr at HB9 ⊢
          go_wp2
          go_roundw
          case rel => exact ⟨i + 1, by omega, by go_num, by rw [e0.out], by rw [HDN.out], HB9⟩
          case measure => simp [intOf]; omega
      · have he : i = fs.length := by omega
        subst he
        have e1 := HALL.out.1
        have e2 := HALL.out.2
        rw [e1, e2]
        clear e1 e2
        have x0 := Y3.out.c0
        have x1 := Y3.out.c1
        have hll : ls.length ≤ 20 := by have := HLEN.out; omega
        have WH := hid (fun W (a : PairsAt W (.slice A1 ns.length c1) ns) (b : PairsAt W (.slice A2 ls.length c2) ls) => iWhole_any _ _ ns ls W a b)
        rw [HW.out] at WH
        have S1 := hid (then_ S0.out HB.out S0.out.size)
        go_wp2_with fail
        refine (WH.out _ Q1.out Q2.out).mono ?_
        rintro e w7 ⟨rfl, hb⟩
        replace Q1 := hid (Q1.out.below hb)
        replace Q2 := hid (Q2.out.below hb)
        replace Y3 := hid (Y3.out.below hb)
        replace S1 := hid (then_ S1.out hb S1.out.size)
        clear hb x0 x1
        have x0 := Y3.out.c0
        have x1 := Y3.out.c1
        go_wp2_with fail
        refine (iTA_any _ _ ns ls _ Q1.out Q2.out).mono ?_
        rintro e w8 ⟨rfl, hb⟩
        replace S1 := hid (then_ S1.out hb S1.out.size)
        clear hb x0 x1 Q1 Q2 Y3
        generalize taF ns ls = ta
        go_wp2_with fail
        refine (iSmp_any _).mono ?_
        rintro e w6 ⟨p1, p2, rfl, o1, o2, hb⟩
        have S6 := hid (then_ S1.out hb S1.out.size)
        have y1 := (OwnR.of_pairs o1).pairs
        have y2 := (OwnR.of_pairs o2).pairs
        clear hb
        go_wp2_with fail
        refine (iTA_any _ _ smpN smpL _ y1 y2).mono ?_
        rintro e w7 ⟨rfl, hb⟩
        rw [sample_total]
        have S7 := hid (then_ S6.out hb S6.out.size)
        clear hb
        go_wp2
        go_ret
        exact ⟨rfl, S7.out⟩
end Go.Proofs.Ytdhppajfdcfikaa

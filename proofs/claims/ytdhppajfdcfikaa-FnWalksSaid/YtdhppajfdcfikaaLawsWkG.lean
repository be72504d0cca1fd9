/- The walk of the law FnWalks: it returns true whatever bytes it draws from. No condition. -/
import Derived.Test.YtdhppajfdcfikaaDrawW
import Derived.Test.YtdhppajfdcfikaaWalkLG
import Derived.Test.YtdhppajfdcfikaaM8
namespace Go.Proofs.Ytdhppajfdcfikaa
open Go.ChangeShapes Go.WideShapes Go.ChangeAt Go.RowKit
set_option maxHeartbeats 6000000
set_option maxRecDepth 100000
set_option linter.unusedSimpArgs false
set_option linter.unusedVariables false
theorem sample_walk : waF smpN smpL 0 = 32 := by kernel_rfl
theorem own_row_below {B n : Nat} {e : TypeId} {w w' : World} {v : Value} {xs : List Value} (h : w.ownsRow B e 1 v n xs) (hb : Below w.heap.size w w') : w'.ownsRow B e 1 v n xs := by
  refine World.ownsRow.kept (row := none) h ⟨hb.os, hb.tape, hb.output, hb.size, fun k hk _ => hb.block k hk⟩ ?_
  cases v.ownBlock <;> simp
theorem FnWalks_walk (w : World) (A : Option Addr) (n c : Nat) (hb : LoBytes w A n) (hn : n ≤ maxLen) : Calls Try.prog 7 #[.slice A n c] w fun e w' => e = .returned (.bool true) ∧ Below w.heap.size w w' := by
  have LB := hid hb
  clear hb
  by_cases hbig : 1048576 < n
  · have hd : decide (1048576 < n) = true := by simpa using hbig
    have BG := hid (big_any A n c w hn)
    rw [hd] at BG
    go_enter Try.func7, Try.ntmps7
    go_wp2_with fail
    refine BG.out.mono ?_
    rintro e w' ⟨rfl, rfl⟩
    go_wp2
    go_ret
    exact ⟨rfl, Below.refl _ _⟩
  · have hd : decide (1048576 < n) = false := by simpa using hbig
    have BG := hid (big_any A n c w hn)
    rw [hd] at BG
    clear hd
    obtain ⟨i1, bi, bz0, bz1, bz2⟩ := info_parts infoBl
    have hmk : ∀ (N : Nat) (W : World), Hid (N ≤ 40) → (Instr.makeSlice 44 (.int .i64 (N : Int)) (.int .i64 (N : Int))).run Try.prog W = .ok (.slice (some ⟨W.heap.size, 0, none⟩) N N) (W.alloc (.cells (madeCells #[.bool false] N) 4)) := fun N W hN => by
      have hN := hN.out
      have := run_make (P := Try.prog) W 44 4 i1 _ Try.underlying44 bi bz0 .i64 .i64 (N : Int) (N : Int) (by omega) (by omega) (by rw [bz2]; omega) (by omega)
      rw [bz1] at this
      simp only [Int.toNat_natCast, Nat.mul_one] at this
      exact this
    have HMK := hid hmk
    clear hmk bi bz0 bz1 bz2
    go_enter Try.func7, Try.ntmps7
    go_wp2_with fail
    refine BG.out.mono ?_
    rintro e w' ⟨rfl, rfl⟩
    go_wp2_with fail
    refine (drawWindow_any A n c _ LB.out (by omega)).mono ?_
    rintro e w1 ⟨p1, p2, ns, ls, rfl, o1, o2, hw, hb1⟩
    obtain ⟨A1, c1, rfl⟩ := o1.form
    obtain ⟨A2, c2, rfl⟩ := o2.form
    have a1 : Below w1.heap.size w1 (w1.alloc (.cells #[.slice A1 ns.length c1, .slice A2 ls.length c2] 31)) := (Below.refl _ _).alloc (Nat.le_refl _) _
    have P1 := hid (o1.below a1).pairs
    have P2 := hid (o2.below a1).pairs
    have X3 := hid (BoxV.new w1 (.slice A1 ns.length c1) (.slice A2 ls.length c2) 31 w1.heap.size rfl)
    have S0 := hid (then_ hb1 a1 hb1.size)
    have HW := hid hw
    have x0 := X3.out.c0
    have x1 := X3.out.c1
    clear hb1 o1 o2 a1 BG
    obtain ⟨hn1, hn12, hl20⟩ := win_len HW.out
    obtain ⟨N, hN⟩ : ∃ N, N = 2 * ls.length := ⟨_, rfl⟩
    have hN40 : N ≤ 40 := by omega
    have q0 : IntKind.i64.wrap (2 * (ls.length : Int)) = (N : Int) := by rw [IntWalk.i64_in _ (by omega)]; omega
    have q1 : 2 * (ls.length : Int) = (N : Int) := by omega
    have HN2 := hid hN
    have HLS := hid (show ls.length ≤ 1048576 by omega)
    have hmk := fun W => HMK.out N W (hid hN40)
    clear hN HMK
    go_wp2_with fail
    clear hmk q0
    have hz2 : (w1.alloc (.cells #[.slice A1 ns.length c1, .slice A2 ls.length c2] 31)).heap.size = w1.heap.size + 1 := by simp
    generalize w1.heap.size = g at X3 x0 x1 hz2 ⊢
    generalize w1.alloc _ = w2 at P1 P2 X3 S0 x0 x1 hz2 ⊢
    have a2 : Below w2.heap.size w2 (w2.alloc (.cells (madeCells #[.bool false] N) 4)) := (Below.refl _ _).alloc (Nat.le_refl _) _
    have KB := hid (show Blk (w2.alloc (.cells (madeCells #[.bool false] N) 4)) w2.heap.size 4 (bRow N (seenP ns ls 0)).toArray by
      have e : seenP ns ls 0 = fun _ => false := by funext d; rfl
      rw [e, bRow_start]; exact Blk.new _ _ _)
    have HB0 := hid a2
    have GS := hid (Nat.le_refl w2.heap.size)
    clear a2 x0 x1
    generalize w2.alloc _ = w3 at KB HB0 ⊢
    obtain ⟨gs, hgs⟩ : ∃ gs, gs = g + 1 := ⟨_, rfl⟩
    rw [hz2, ← hgs] at KB
    rw [← hgs]
    have HGS := hid (show w2.heap.size = gs by rw [hz2, hgs])
    clear hgs hz2
    have WR := hid (fun m h => walk_round (ns := ns) (ls := ls) HW.out (n := m) h)
    have WAT := hid (fun m h i h2 => walk_at (ns := ns) (ls := ls) HW.out (n := m) h (i := i) h2)
    have TU := hid (next_turns (win_facts HW.out))
    rw [← HN2.out] at WR WAT TU
    go_loopw [5, 7] (fun s j wr => ∃ m : Nat, m ≤ N ∧ j = .int .i64 m ∧ (∃ T : Int, -1000000 * (m : Int) ≤ T ∧ T ≤ 1000000 * (m : Int) ∧ s = .int .i64 T ∧ Hid (T = smW ns ls m)) ∧ Hid (Blk wr gs 4 (bRow N (seenP ns ls m)).toArray) ∧ Hid (Below w2.heap.size w2 wr)) (fun _ j _ => N - (intOf j).toNat)
    case atStart => exact ⟨0, Nat.zero_le _, rfl, ⟨0, by omega, by omega, rfl, hid rfl⟩, KB, HB0⟩
    case round =>
      clear KB HB0
      obtain ⟨m, hm, rfl, ⟨tt, t0, t1, rfl, HT⟩, KB, HB⟩ := hrel
      have R1 := hid (P1.out.below HB.out)
      have R2 := hid (P2.out.below HB.out)
      have Z3 := hid (X3.out.below HB.out)
      have x0 := Z3.out.c0
      have x1 := Z3.out.c1
      by_cases hlt : m < N
      · have hm0 : (0 : Int) ≤ (m : Int) := by omega
        have hm1 : (m : Int) < (N : Int) := by omega
        obtain ⟨r1, r2, r3, r4, r5, r6⟩ := WR.out m hlt
        have WA := hid (fun i h => WAT.out m hlt i h)
        have WG := hid (fun i h => wk_get (nxN ns ls) N m i h)
        have LP := hid (walkI_len ns ls m)
        rw [← HN2.out] at LP
        go_wp2_with fail
        refine (iWO_any _ _ ns ls (m : Int) _ R1.out R2.out HLS.out).mono ?_
        rintro e w5 ⟨v, rfl, hu, hb⟩
        rw [r1] at hu
        obtain ⟨gu, cu, rfl, g1, g2⟩ := own_cons hu r4
        have hgu : gs < gu := by have := KB.out.lt; omega
        have hgw : gs ≤ wr.heap.size := Nat.le_of_lt KB.out.lt
        replace R1 := hid (R1.out.below hb)
        replace R2 := hid (R2.out.below hb)
        replace Z3 := hid (Z3.out.below hb)
        replace KB := hid (KB.out.below hb KB.out.lt)
        replace HB := hid (then_ HB.out hb HB.out.size)
        have HG2 := hid (show w2.heap.size ≤ gu by have := HB.out.size; have := HGS.out; omega)
        have UU := hid hu
        have R1W := hid r1
        have R2W := hid r2
        have cu0 : w5.cell? ⟨gu, 0, none⟩ = some (.int .i64 (m : Int)) := own_cell hu rfl r3
        clear hu hb g1 g2 r1 r2 r3 x0 x1
        have x0 := Z3.out.c0
        have x1 := Z3.out.c1
        have SK := hid (fun h => smW_next (ns := ns) (ls := ls) (n := m) h)
        have SE := hid (fun h => smW_same (ns := ns) (ls := ls) (n := m) h)
        have z := fun W (a : PairsAt W (.slice A1 ns.length c1) ns) (b : PairsAt W (.slice A2 ls.length c2) ls) => iWL_any _ _ ns ls (m : Int) W a b HLS.out
        rw [R1W.out] at z
        have WL := hid z
        clear z
        have z := fun W (a : PairsAt W (.slice A1 ns.length c1) ns) (b : PairsAt W (.slice A2 ls.length c2) ls) => iWA_any _ _ ns ls (m : Int) W a b HLS.out
        rw [R2W.out] at z
        have WAr := hid z
        clear z
        clear R1W R2W
        generalize areaL ns ls (walkI ns ls m) = ar at WAr SK r6
        obtain ⟨L, hL⟩ : ∃ L, L = (walkI ns ls m).length := ⟨_, rfl⟩
        have HL := hid hL
        have U5 := hid (show w5.ownsRow gs 3 1 (.slice (some ⟨gu, 0, none⟩) L cu) L (ints (walkI ns ls m)) by rw [hL]; exact own_less UU.out hgw)
        rw [← hL] at r4 r5 LP WL WA ⊢
        clear UU hL
        have hL0 : (L : Int) ≠ 0 := by omega
        have hL1 : (L : Int) ≤ (N : Int) := by omega
        have hLI : (0 : Int) < (L : Int) := by omega
        have hb1 : ((L : Int) == 0) = false := by simp; omega
        have hb2 : decide (N < L) = false := by simp; omega
        cases hs : seenP ns ls m m
        · have HS := hid hs
          have cs : w5.cell? ⟨gs, m, none⟩ = some (.bool false) := by rw [KB.out.bool hlt, hs]
          clear hs
          go_wp2_with fail
          refine (WL.out _ R1.out R2.out).mono ?_
          rintro e w6 ⟨rfl, hb⟩
          replace R1 := hid (R1.out.below hb)
          replace R2 := hid (R2.out.below hb)
          replace Z3 := hid (Z3.out.below hb)
          replace KB := hid (KB.out.below hb KB.out.lt)
          replace HB := hid (then_ HB.out hb HB.out.size)
          have U6 := hid (own_row_below U5.out hb)
          have cs2 : w6.cell? ⟨gs, m, none⟩ = some (.bool false) := by rw [KB.out.bool hlt, HS.out]
          clear hb cs cu0 x0 x1
          have x0 := Z3.out.c0
          have x1 := Z3.out.c1
          go_wp2_with fail
          clear cs2 x0 x1
          go_loopw [10] (fun j wr => ∃ i : Nat, i ≤ L ∧ j = .int .i64 i ∧ Hid (Below w6.heap.size w6 wr)) (fun j _ => L - (intOf j).toNat)
          case atStart => exact ⟨0, Nat.zero_le _, rfl, hid (Below.refl _ _)⟩
          case round =>
            obtain ⟨i, hi, rfl, HC⟩ := hrel
            have Q1 := hid (R1.out.below HC.out)
            have Q2 := hid (R2.out.below HC.out)
            have Y3 := hid (Z3.out.below HC.out)
            have KC := hid (KB.out.below HC.out KB.out.lt)
            have UC := hid (own_row_below U6.out HC.out)
            by_cases hil : i < L
            · obtain ⟨e, x, h1, h2, h3, h4, h5, h6, h7, h8⟩ := WA.out i hil
              have hi0 : (0 : Int) ≤ (i : Int) := by omega
              have hi1 : (i : Int) < (L : Int) := by omega
              obtain ⟨k, hk⟩ : ∃ k, k = (i + 1) % L := ⟨_, rfl⟩
              rw [← hk] at h3
              have hkl : k < L := by rw [hk]; exact Nat.mod_lt _ (by omega)
              have hk0 : (0 : Int) ≤ (k : Int) := by omega
              have hk1 : (k : Int) < (L : Int) := by omega
              have HK := hid hk
              clear hk
              have hll : (L : Int) ≠ 0 := by omega
              have he0 : (0 : Int) ≤ (e : Int) := by omega
              have heN : (e : Int) < (N : Int) := by omega
              have heL : e < N := by omega
              have hd1 : decide ((e : Int) < 0) = false := by simp
              have hd2 : decide (N ≤ e) = false := by simp; omega
              have hd3 : decide ((N : Int) ≤ (e : Int)) = false := by simp; omega
              obtain ⟨j9, hj9⟩ : ∃ j9, j9 = i + 1 := ⟨_, rfl⟩
              have W1 := hid (show IntKind.i64.wrap ((i : Int) + 1) = (j9 : Int) by rw [IntWalk.i64_in _ (by omega)]; omega)
              have W3 := hid (show (j9 : Int) % (L : Int) = (k : Int) by rw [HK.out, hj9]; exact (Int.natCast_emod (i + 1) L).symm)
              have W2 := hid (show (j9 : Int).tmod (L : Int) = (k : Int) by rw [Int.tmod_eq_emod_of_nonneg (by omega)]; exact W3.out)
              have W4 := hid (show (0 : Int) ≤ (j9 : Int) by omega)
              clear hj9
              have y1 : wr.cell? ⟨gu, i, none⟩ = some (.int .i64 (e : Int)) := own_cell UC.out HL.out.symm h1
              have y2 : wr.cell? ⟨gu, k, none⟩ = some (.int .i64 (x : Int)) := own_cell UC.out HL.out.symm h3
              have ul := UC.out.lt gu rfl
              have kl := KC.out.lt
              have y3 : wr.cell? ⟨gs, e, none⟩ = some (.bool (seenP ns ls m e)) := KC.out.bool heL
              rw [h8 HS.out] at y3
              obtain ⟨vv, hvv⟩ : ∃ vv, dfF ns ls (x : Int) = vv := ⟨_, rfl⟩
              rw [hvv] at h6
              have z := fun q => iND_any _ _ ns ls (e : Int) (mv wr q) (Q1.out.below (below_mv wr q)) (Q2.out.below (below_mv wr q)) HLS.out
              rw [h5] at z
              have D1 := hid z
              clear z
              have z := fun q => sDT_any _ _ ns ls (e : Int) (mv wr q) (Q1.out.below (below_mv wr q)) (Q2.out.below (below_mv wr q)) HLS.out
              rw [h6] at z
              have D2 := hid z
              clear z
              have z := fun q => sDF_any _ _ ns ls (x : Int) (mv wr q) (Q1.out.below (below_mv wr q)) (Q2.out.below (below_mv wr q)) HLS.out
              rw [hvv] at z
              have D3 := hid z
              clear z
              have z := fun q => iSW_any _ _ ns ls (m : Int) (e : Int) (mv wr q) (Q1.out.below (below_mv wr q)) (Q2.out.below (below_mv wr q)) HLS.out
              rw [h7] at z
              have D4 := hid z
              clear z
              clear h1 h3 h5 h6 h7 h8 hvv
              have x0 := Y3.out.c0
              have x1 := Y3.out.c1
              have v1 := W1.out
              have v3 := W3.out
              have v4 := W4.out
              go_wp2_with fail
              clear v1 v3 v4 W1 W2 W3 W4 x0 x1
              have n0 := fun q => (Y3.out.mv q).c0
              have n1 := fun q => (Y3.out.mv q).c1
              have n2 : ∀ q, (mv wr q).cell? ⟨gu, i, none⟩ = some (.int .i64 (e : Int)) := fun q => ((below_mv wr q).cell (p := ⟨gu, i, none⟩) ul.2).trans y1
              have n3 : ∀ q, (mv wr q).cell? ⟨gu, k, none⟩ = some (.int .i64 (x : Int)) := fun q => ((below_mv wr q).cell (p := ⟨gu, k, none⟩) ul.2).trans y2
              have n4 : ∀ q, (mv wr q).cell? ⟨gs, e, none⟩ = some (.bool false) := fun q => ((below_mv wr q).cell (p := ⟨gs, e, none⟩) kl).trans y3
              clear y1 y2 y3
              refine wp_region_mv (by kernel_rfl) (by kernel_rfl) ?_
              repeat (go_big_quiet_step (first | (with_reducible exact calls_mv (D1.out _)) | (with_reducible exact calls_mv (D2.out _)) | (with_reducible exact calls_mv (D3.out _)) | (with_reducible exact calls_mv (D4.out _))))
              refine wpQuiet_nil ?_
              intro _ hw'
              obtain ⟨q, hw''⟩ := hw'
              subst hw''
              have HC9 := hid (then_ HC.out (below_mv wr q) HC.out.size)
              clear n0 n1 n2 n3 n4 D1 D2 D3 D4 ul kl
              generalize mv wr q = wr at HC9 ⊢
              go_wp2
              go_roundw
              case rel => exact ⟨i + 1, by omega, by go_num, HC9⟩
              case measure => simp [intOf]; omega
            · have he : i = L := by omega
              subst he
              have HB9 := hid (then_ HB.out HC.out HB.out.size)
              clear HB U6 R1 R2 Z3 KB HC
              have x0 := Y3.out.c0
              have x1 := Y3.out.c1
              go_wp2_with fail
              refine (WAr.out _ Q1.out Q2.out).mono ?_
              rintro e w7 ⟨rfl, hb⟩
              have K7 := hid (KC.out.below hb KC.out.lt)
              have U7 := hid (own_row_below UC.out hb)
              have HB7 := hid (then_ HB9.out hb HB9.out.size)
              clear hb KC UC HB9 Q1 Q2 Y3 x0 x1
              go_wp2_with fail
              have KS := hid (show Blk w7 gs 4 (bRow N (fun j => seenP ns ls m j || ((wk (nxN ns ls) N m).take 0).contains j)).toArray by
                have e : (fun j => seenP ns ls m j || ((wk (nxN ns ls) N m).take 0).contains j) = seenP ns ls m := by funext j; simp
                rw [e]; exact K7.out)
              clear K7
              go_loopw [12] (fun j wr => ∃ i2 : Nat, i2 ≤ i ∧ j = .int .i64 i2 ∧ Hid (wr.ownsRow gs 3 1 (.slice (some ⟨gu, 0, none⟩) i cu) i (ints (walkI ns ls m))) ∧ Hid (Blk wr gs 4 (bRow N (fun j => seenP ns ls m j || ((wk (nxN ns ls) N m).take i2).contains j)).toArray) ∧ Hid (Below w2.heap.size w2 wr)) (fun j _ => i - (intOf j).toNat)
              case atStart => exact ⟨0, Nat.zero_le _, rfl, U7, KS, HB7⟩
              case round =>
                clear U7 KS HB7
                obtain ⟨i2, hi2, rfl, U4, K4, B4⟩ := hrel
                by_cases hil2 : i2 < i
                · obtain ⟨e, x, h1, h2, _, h4, _⟩ := WA.out i2 hil2
                  have hi0 : (0 : Int) ≤ (i2 : Int) := by omega
                  have hi1 : (i2 : Int) < (i : Int) := by omega
                  have he0 : (0 : Int) ≤ (e : Int) := by omega
                  have heN : (e : Int) < (N : Int) := by omega
                  have heL : e < N := by omega
                  have hd1 : decide ((e : Int) < 0) = false := by simp
                  have hd2 : decide (N ≤ e) = false := by simp; omega
                  have hd3 : decide ((N : Int) ≤ (e : Int)) = false := by simp; omega
                  have cu4 : wr.cell? ⟨gu, i2, none⟩ = some (.int .i64 (e : Int)) := own_cell U4.out HL.out.symm h1
                  have ce : wr.cell? ⟨gs, e, none⟩ = some (.bool (seenP ns ls m e || ((wk (nxN ns ls) N m).take i2).contains e)) := K4.out.bool heL
                  have fe : wr.frozen? ⟨gs, e, none⟩ = false := K4.out.frozen e
                  generalize (seenP ns ls m e || ((wk (nxN ns ls) N m).take i2).contains e) = b9 at ce
                  have WKE := hid h2
                  clear h1 h2 h4
                  go_wp2
                  go_roundw
                  case rel =>
                    have gs9 := grown_set wr gs e (.bool true)
                    refine ⟨i2 + 1, by omega, by go_num, hid (own_beside U4.out gs9 K4.out (by decide)), hid ?_, hid (B4.out.setCell (p := ⟨gs, e, none⟩) (by have := HGS.out; show w2.heap.size ≤ gs; omega) _)⟩
                    have hset := K4.out.set_ e (.bool true)
                    rw [List.setIfInBounds_toArray, bRow_set N _ (fun j => seenP ns ls m j || ((wk (nxN ns ls) N m).take (i2 + 1)).contains j) e (fun j _ => by rw [take_has WKE.out, Bool.or_assoc])] at hset
                    exact hset
                  case measure => simp [intOf]; omega
                · have he : i2 = i := by omega
                  subst he
                  have SN := hid (show bRow N (fun j => seenP ns ls m j || ((wk (nxN ns ls) N m).take i2).contains j) = bRow N (seenP ns ls (m + 1)) by
                    congr 1; funext j
                    rw [seenP_no HS.out, ← HN2.out, List.take_of_length_le (by rw [wk_len, ← LP.out]; omega)])
                  rw [SN.out] at K4
                  go_wp2
                  go_roundw
                  case rel => exact ⟨m + 1, by omega, by go_num, ⟨tt + ar, by omega, by omega, rfl, hid (by rw [SK.out HS.out, HT.out])⟩, K4, B4⟩
                  case measure => simp [intOf]; omega
        · have HS := hid hs
          have cs : w5.cell? ⟨gs, m, none⟩ = some (.bool true) := by rw [KB.out.bool hlt, hs]
          clear hs
          go_wp2_with fail
          refine (WL.out _ R1.out R2.out).mono ?_
          rintro e w6 ⟨rfl, hb⟩
          replace R1 := hid (R1.out.below hb)
          replace R2 := hid (R2.out.below hb)
          replace Z3 := hid (Z3.out.below hb)
          replace KB := hid (KB.out.below hb KB.out.lt)
          replace HB := hid (then_ HB.out hb HB.out.size)
          have U6 := hid (own_row_below U5.out hb)
          have cs2 : w6.cell? ⟨gs, m, none⟩ = some (.bool true) := by rw [KB.out.bool hlt, HS.out]
          clear hb cs cu0 x0 x1
          have x0 := Z3.out.c0
          have x1 := Z3.out.c1
          go_wp2_with fail
          clear cs2 x0 x1
          go_loopw [10] (fun j wr => ∃ i : Nat, i ≤ L ∧ j = .int .i64 i ∧ Hid (Below w6.heap.size w6 wr)) (fun j _ => L - (intOf j).toNat)
          case atStart => exact ⟨0, Nat.zero_le _, rfl, hid (Below.refl _ _)⟩
          case round =>
            obtain ⟨i, hi, rfl, HC⟩ := hrel
            have Q1 := hid (R1.out.below HC.out)
            have Q2 := hid (R2.out.below HC.out)
            have Y3 := hid (Z3.out.below HC.out)
            have KC := hid (KB.out.below HC.out KB.out.lt)
            have UC := hid (own_row_below U6.out HC.out)
            by_cases hil : i < L
            · obtain ⟨e, x, h1, h2, h3, h4, h5, h6, h7, h8⟩ := WA.out i hil
              have hi0 : (0 : Int) ≤ (i : Int) := by omega
              have hi1 : (i : Int) < (L : Int) := by omega
              obtain ⟨k, hk⟩ : ∃ k, k = (i + 1) % L := ⟨_, rfl⟩
              rw [← hk] at h3
              have hkl : k < L := by rw [hk]; exact Nat.mod_lt _ (by omega)
              have hk0 : (0 : Int) ≤ (k : Int) := by omega
              have hk1 : (k : Int) < (L : Int) := by omega
              have HK := hid hk
              clear hk
              have hll : (L : Int) ≠ 0 := by omega
              have he0 : (0 : Int) ≤ (e : Int) := by omega
              have heN : (e : Int) < (N : Int) := by omega
              have heL : e < N := by omega
              have hd1 : decide ((e : Int) < 0) = false := by simp
              have hd2 : decide (N ≤ e) = false := by simp; omega
              have hd3 : decide ((N : Int) ≤ (e : Int)) = false := by simp; omega
              obtain ⟨j9, hj9⟩ : ∃ j9, j9 = i + 1 := ⟨_, rfl⟩
              have W1 := hid (show IntKind.i64.wrap ((i : Int) + 1) = (j9 : Int) by rw [IntWalk.i64_in _ (by omega)]; omega)
              have W3 := hid (show (j9 : Int) % (L : Int) = (k : Int) by rw [HK.out, hj9]; exact (Int.natCast_emod (i + 1) L).symm)
              have W2 := hid (show (j9 : Int).tmod (L : Int) = (k : Int) by rw [Int.tmod_eq_emod_of_nonneg (by omega)]; exact W3.out)
              have W4 := hid (show (0 : Int) ≤ (j9 : Int) by omega)
              clear hj9
              have y1 : wr.cell? ⟨gu, i, none⟩ = some (.int .i64 (e : Int)) := own_cell UC.out HL.out.symm h1
              have y2 : wr.cell? ⟨gu, k, none⟩ = some (.int .i64 (x : Int)) := own_cell UC.out HL.out.symm h3
              have ul := UC.out.lt gu rfl
              have kl := KC.out.lt
              have y3 : wr.cell? ⟨gs, e, none⟩ = some (.bool (seenP ns ls m e)) := KC.out.bool heL
              generalize seenP ns ls m e = b9 at y3
              obtain ⟨vv, hvv⟩ : ∃ vv, dfF ns ls (x : Int) = vv := ⟨_, rfl⟩
              rw [hvv] at h6
              have z := fun q => iND_any _ _ ns ls (e : Int) (mv wr q) (Q1.out.below (below_mv wr q)) (Q2.out.below (below_mv wr q)) HLS.out
              rw [h5] at z
              have D1 := hid z
              clear z
              have z := fun q => sDT_any _ _ ns ls (e : Int) (mv wr q) (Q1.out.below (below_mv wr q)) (Q2.out.below (below_mv wr q)) HLS.out
              rw [h6] at z
              have D2 := hid z
              clear z
              have z := fun q => sDF_any _ _ ns ls (x : Int) (mv wr q) (Q1.out.below (below_mv wr q)) (Q2.out.below (below_mv wr q)) HLS.out
              rw [hvv] at z
              have D3 := hid z
              clear z
              have z := fun q => iSW_any _ _ ns ls (m : Int) (e : Int) (mv wr q) (Q1.out.below (below_mv wr q)) (Q2.out.below (below_mv wr q)) HLS.out
              rw [h7] at z
              have D4 := hid z
              clear z
              clear h1 h3 h5 h6 h7 h8 hvv
              have x0 := Y3.out.c0
              have x1 := Y3.out.c1
              have v1 := W1.out
              have v3 := W3.out
              have v4 := W4.out
              go_wp2_with fail
              clear v1 v3 v4 W1 W2 W3 W4 x0 x1
              have n0 := fun q => (Y3.out.mv q).c0
              have n1 := fun q => (Y3.out.mv q).c1
              have n2 : ∀ q, (mv wr q).cell? ⟨gu, i, none⟩ = some (.int .i64 (e : Int)) := fun q => ((below_mv wr q).cell (p := ⟨gu, i, none⟩) ul.2).trans y1
              have n3 : ∀ q, (mv wr q).cell? ⟨gu, k, none⟩ = some (.int .i64 (x : Int)) := fun q => ((below_mv wr q).cell (p := ⟨gu, k, none⟩) ul.2).trans y2
              have n4 : ∀ q, (mv wr q).cell? ⟨gs, e, none⟩ = some (.bool b9) := fun q => ((below_mv wr q).cell (p := ⟨gs, e, none⟩) kl).trans y3
              clear y1 y2 y3
              refine wp_region_mv (by kernel_rfl) (by kernel_rfl) ?_
              repeat (go_big_quiet_step (first | (with_reducible exact calls_mv (D1.out _)) | (with_reducible exact calls_mv (D2.out _)) | (with_reducible exact calls_mv (D3.out _)) | (with_reducible exact calls_mv (D4.out _))))
              refine wpQuiet_nil ?_
              intro _ hw'
              obtain ⟨q, hw''⟩ := hw'
              subst hw''
              have HC9 := hid (then_ HC.out (below_mv wr q) HC.out.size)
              clear n0 n1 n2 n3 n4 D1 D2 D3 D4 ul kl
              generalize mv wr q = wr at HC9 ⊢
              go_wp2
              go_roundw
              case rel => exact ⟨i + 1, by omega, by go_num, HC9⟩
              case measure => simp [intOf]; omega
            · have he : i = L := by omega
              subst he
              have HB9 := hid (then_ HB.out HC.out HB.out.size)
              clear HB U6 R1 R2 Z3 KB HC
              have x0 := Y3.out.c0
              have x1 := Y3.out.c1
              go_wp2
              go_roundw
              case rel => exact ⟨m + 1, by omega, by go_num, ⟨tt, by omega, by omega, rfl, hid (by rw [SE.out HS.out, HT.out])⟩, by rw [seenP_yes HS.out]; exact KC, HB9⟩
              case measure => simp [intOf]; omega
      · have he : m = N := by omega
        subst he
        obtain rfl : tt = 0 := by rw [HT.out, HN2.out]; exact smW_all HW.out
        clear HT x0 x1 R1 R2 Z3 KB
        go_wp2_with fail
        refine (iSmp_any _).mono ?_
        rintro e w6 ⟨p1, p2, rfl, o1, o2, hb⟩
        have S6 := hid (then_ (then_ S0.out HB.out S0.out.size) hb (by have := HB.out.size; have := S0.out.size; omega))
        have y1 := (OwnR.of_pairs o1).pairs
        have y2 := (OwnR.of_pairs o2).pairs
        clear hb HB
        go_wp2_with fail
        refine (iWA_any _ _ smpN smpL 0 _ y1 y2 (by decide)).mono ?_
        rintro e w7 ⟨rfl, hb⟩
        rw [sample_walk]
        have S7 := hid (then_ S6.out hb S6.out.size)
        clear hb
        go_wp2
        go_ret
        exact ⟨rfl, S7.out⟩
end Go.Proofs.Ytdhppajfdcfikaa

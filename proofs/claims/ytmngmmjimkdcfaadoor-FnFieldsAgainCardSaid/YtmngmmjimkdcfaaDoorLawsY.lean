/- The walk of the law FnFieldsAgain: it returns true whatever bytes it draws from. Condition: the library's table of powers of ten lies as it is laid at the start. -/
import Derived.Test.YtmngmmjimkdcfaaDoorItoa
import Derived.Test.YtmngmmjimkdcfaaDoorDrawS
import Derived.Test.YtmngmmjimkdcfaaDoorSplit
import Derived.Test.YtmngmmjimkdcfaaDoorFieldsQ
namespace Go.Proofs.YtmngmmjimkdcfaaDoor
open Go.ChangeShapes Go.WideShapes Go.ChangeAt Go.RowKit
set_option maxHeartbeats 2000000
set_option linter.unusedSimpArgs false
set_option linter.unusedVariables false
theorem sameTexts_same (v v' : Value) (xs : List ByteArray) (w : World) (hv : StrsAt w v xs) (hv' : StrsAt w v' xs) : Calls Tryd.prog 20 #[v, v'] w fun e w' => e = .returned (.bool true) ∧ Below w.heap.size w w' := by
  obtain ⟨A, c, rfl, hn, hcell⟩ := hv
  obtain ⟨A', c', rfl, _, hcell'⟩ := hv'
  have HC := hid hcell
  have HC' := hid hcell'
  clear hcell hcell'
  go_enter Tryd.func20, Tryd.ntmps20
  go_wp2
  go_loopw [5] (fun i wr => ∃ k : Nat, k ≤ xs.length ∧ i = .int .i64 k ∧ Below w.heap.size w wr) (fun i _ => xs.length - (intOf i).toNat)
  case atStart => exact ⟨0, Nat.zero_le _, rfl, Below.refl _ _⟩
  case round =>
    obtain ⟨k, hk, rfl, hb⟩ := hrel
    by_cases hlt : k < xs.length
    · obtain ⟨x, hxy⟩ : ∃ p, xs[k]? = some p := ⟨_, List.getElem?_eq_getElem hlt⟩
      obtain ⟨b, off, rfl, hbb, h1⟩ := HC.out k x hxy
      obtain ⟨b', off', rfl, hbb', h3⟩ := HC'.out k x hxy
      have hbs := hb.size
      have h1' : ∀ p, (mv wr p).cell? ⟨b, off + k, none⟩ = some (.string x) := fun p => cell_mv (by omega) (by rw [hb.cell (p := ⟨b, _, none⟩) hbb]; exact h1) p
      have h3' : ∀ p, (mv wr p).cell? ⟨b', off' + k, none⟩ = some (.string x) := fun p => cell_mv (by omega) (by rw [hb.cell (p := ⟨b', _, none⟩) hbb']; exact h3) p
      have hk0 : (0 : Int) ≤ (k : Int) := by omega
      have hk1 : (k : Int) < (xs.length : Int) := by omega
      have HB := hid hb
      clear h1 h3 hxy hb
      go_wp2_with fail
      refine wp_region_mv (by kernel_rfl) (by kernel_rfl) ?_
      repeat (go_big_quiet_step (fail))
      refine wpQuiet_nil ?_
      intro _ hw'
      obtain ⟨q, hw''⟩ := hw'
      subst hw''
      go_wp2
      go_roundw
      case rel => exact ⟨k + 1, by omega, by go_num, then_ HB.out (below_mv _ q) hbs⟩
      case measure => simp [intOf]; omega
    · go_wp2
      go_ret
      exact ⟨rfl, hb⟩
theorem FnFieldsAgain_walk (w : World) (htab : Tab w) (A : Option Addr) (n c : Nat) (hb : LoBytes w A n) (hn : n ≤ maxLen) : Calls Tryd.prog 7 #[.slice A n c] w fun e w' => e = .returned (.bool true) ∧ Below w.heap.size w w' := by
  have LB := hid hb
  have HT := hid htab
  clear hb htab
  by_cases hbig : 1048576 < n
  · have hd : decide (1048576 < n) = true := by simpa using hbig
    have BG := hid (big_any A n c w hn)
    rw [hd] at BG
    go_enter Tryd.func7, Tryd.ntmps7
    go_wp2_with fail
    refine BG.out.mono ?_
    rintro e w' ⟨rfl, rfl⟩
    go_wp2
    go_ret
    exact ⟨rfl, Below.refl _ _⟩
  have hd : decide (1048576 < n) = false := by simpa using hbig
  have BG := hid (big_any A n c w hn)
  rw [hd] at BG
  clear hd
  go_enter Tryd.func7, Tryd.ntmps7
  go_wp2_with fail
  refine BG.out.mono ?_
  rintro e w' ⟨rfl, rfl⟩
  go_wp2_with fail
  refine (drawSplit_any A n c _ LB.out (by omega)).mono ?_
  rintro e w1 ⟨line, hs, rfl, hb1⟩
  have B1 := hid hb1
  have T1 := hid (HT.out.below hb1)
  have CI := hid (fun W => iSplit_any line W (by omega))
  have CS := hid (fun W => sSplit_any line W (by omega))
  unfold SplitRes at CI CS
  clear hb1 BG
  cases hok : fldOk line
  · have hF : fldF line = [] := by unfold fldF; rw [hok]; rfl
    rw [hok, hF] at CI CS
    clear hok hF
    go_wp2_with fail
    refine (CI.out _).mono ?_
    rintro e w2 ⟨v, rfl, ho, hb⟩
    obtain ⟨A2, c2, rfl⟩ := ownS_form ho
    have B2 := hid (then_ B1.out hb B1.out.size)
    have T2 := hid (T1.out.below hb)
    clear hb ho
    go_wp2_with fail
    refine (CS.out _).mono ?_
    rintro e w3 ⟨v3, rfl, ho, hb⟩
    have B3 := hid (then_ B2.out hb B2.out.size)
    have T3 := hid (T2.out.below hb)
    clear hb ho
    have FT := hid (iFmt_any (-3) w3 (WalkArith.wf_i64 ⟨by omega, by omega⟩) T3.out)
    have e3 : itoaS (-3) = ⟨#[45, 51]⟩ := by
      unfold itoaS Lib.itoa
      rw [if_pos (by omega)]
      show (⟨(45 :: Lib.decDigits 3).toArray⟩ : ByteArray) = _
      rw [Lib.decDigits_one (by omega)]; rfl
    rw [e3] at FT
    clear e3
    go_wp2_with fail
    refine FT.out.mono ?_
    rintro e w4 ⟨rfl, hb⟩
    have B4 := hid (then_ B3.out hb B3.out.size)
    clear hb
    go_wp2
    go_ret
    exact ⟨rfl, B4.out⟩
  · have FA := hid (fun h => fields_again hok h)
    have FP := hid (fld_props hok)
    have hlen : (fldF line).length ≤ 24 := by
      have := (fldOk_parts hok).2.2
      unfold fldF; rw [if_pos hok]; exact this
    rw [hok] at CI CS
    clear hok
    generalize fldF line = F at CI CS FA FP hlen
    have hF0 : (0 : Int) ≤ (F.length : Int) := by omega
    have hF1 : (F.length : Int) ≤ 24 := by omega
    go_wp2_with fail
    refine (CI.out _).mono ?_
    rintro e w2 ⟨v, rfl, ho, hb⟩
    obtain ⟨A2, c2, rfl⟩ := ownS_form ho
    have B2 := hid (then_ B1.out hb B1.out.size)
    have P2 := hid (ho.at_ (by omega))
    clear hb ho
    go_wp2_with fail
    refine (CS.out _).mono ?_
    rintro e w3 ⟨v3, rfl, ho, hb⟩
    have B3 := hid (then_ B2.out hb B2.out.size)
    have P3 := hid (P2.out.below hb)
    clear hb ho P2
    obtain ⟨A', c', hv', hn', hcell⟩ := P3.out
    injection hv' with hA _ hc'
    subst hA hc'
    have HC := hid hcell
    clear hcell hn'
    go_wp2_with fail
    go_loop [8, 9] (fun s i => ∃ k : Nat, k ≤ F.length ∧ i = .int .i64 k ∧ s = .string (joinS (F.take k)) ∧ (joinS (F.take k)).size ≤ 601 * k) (fun _ i => F.length - (intOf i).toNat)
    case atStart => exact ⟨0, Nat.zero_le _, rfl, rfl, Nat.le_refl _⟩
    case round =>
      obtain ⟨k, hk, rfl, rfl, hsz⟩ := hrel
      by_cases hlt : k < F.length
      · obtain ⟨x, hx⟩ : ∃ p, F[k]? = some p := ⟨_, List.getElem?_eq_getElem hlt⟩
        obtain ⟨b, off, rfl, hbb, h1⟩ := HC.out k x hx
        have hxs := (FP.out x (List.mem_of_getElem? hx)).2.2.2
        have hk0 : (0 : Int) ≤ (k : Int) := by omega
        have hk1 : (k : Int) < (F.length : Int) := by omega
        have E := hid (show joinS (F.take (k + 1)) = (joinS (F.take k) ++ x) ++ ⟨#[32]⟩ by rw [List.take_add_one, hx]; exact joinS_snoc _ _)
        have HZ := hid (show (joinS (F.take (k + 1))).size ≤ 601 * (k + 1) by rw [E.out, size_add, size_add]; show _ + 1 ≤ _; omega)
        generalize joinS (F.take k) = t at hsz E
        have z1 : t.size + x.size ≤ 9223372036854775807 := by omega
        have z2 : (t ++ x).size + (⟨#[32]⟩ : ByteArray).size ≤ 9223372036854775807 := by rw [size_add]; show _ + 1 ≤ _; omega
        clear hx
        go_wp2
        go_round
        case rel => exact ⟨k + 1, by omega, by go_num, by rw [E.out], HZ.out⟩
        case measure => simp [intOf]; omega
      · have he : k = F.length := by omega
        subst he
        have eT : F.take F.length = F := List.take_of_length_le (Nat.le_refl _)
        rw [eT] at hsz ⊢
        clear eT
        have CJ := hid (fun W => iSplit_any (joinS F) W (by omega))
        unfold SplitRes at CJ
        by_cases h600 : 600 < (joinS F).size
        · have NO := fldOk_long h600
          rw [NO] at CJ
          clear NO FA
          have h6 : (600 : Int) < ((joinS F).size : Int) := by omega
          generalize joinS F = t at CJ h6
          go_wp2_with fail
          refine (CJ.out _).mono ?_
          rintro e w4 ⟨v4, rfl, ho, hb⟩
          have B4 := hid (then_ B3.out hb B3.out.size)
          clear hb ho
          go_wp2
          go_ret
          exact ⟨rfl, B4.out⟩
        · obtain ⟨o1, o2⟩ := FA.out (by omega)
          rw [o1, o2] at CJ
          clear o1 o2 FA
          have h6 : ¬ (600 : Int) < ((joinS F).size : Int) := by omega
          generalize joinS F = t at CJ h6
          go_wp2_with fail
          refine (CJ.out _).mono ?_
          rintro e w4 ⟨v4, rfl, ho, hb⟩
          have B4 := hid (then_ B3.out hb B3.out.size)
          have P4 := hid (P3.out.below hb)
          have Q4 := hid (ho.at_ (by omega))
          obtain ⟨A4, c4, rfl⟩ := ownS_form ho
          clear hb ho
          go_wp2_with fail
          refine (sameTexts_same _ _ F _ P4.out Q4.out).mono ?_
          rintro e w5 ⟨rfl, hb⟩
          have B5 := hid (then_ B4.out hb B4.out.size)
          clear hb
          go_wp2
          go_ret
          exact ⟨rfl, B5.out⟩
end Go.Proofs.YtmngmmjimkdcfaaDoor

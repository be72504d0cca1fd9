/- The walk of the law on SplitFields: it returns true for every string. No condition. -/
import Derived.Test.YtmngmmjimkdcfaaSplit
namespace Go.Proofs.Ytmngmmjimkdcfaa
open Go.ChangeShapes Go.WideShapes Go.ChangeAt Go.RowKit
set_option maxHeartbeats 1000000
set_option linter.unusedSimpArgs false
set_option linter.unusedVariables false
theorem fldF_len (s : ByteArray) : (fldF s).length ≤ s.size + 1 := by
  unfold fldF; split
  · exact fldS_len s _
  · simp
theorem FnExactSplitFields_walk (w : World) (s : ByteArray) (hs : s.size ≤ maxLen) : Calls Try.prog 5 #[.string s] w fun e w' => e = .returned (.bool true) ∧ Below w.heap.size w w' := by
  unfold maxLen at hs
  by_cases hb : 1048576 < s.size
  · go_enter Try.func5, Try.ntmps5
    go_wp2
    go_ret
    exact ⟨rfl, Below.refl _ _⟩
  · have hl0 := fldF_len s
    have HL := hid (show (fldF s).length ≤ 1000000000 by omega)
    have CS := hid (fun W => sSplit_any s W (by omega))
    have CI := hid (fun W => iSplit_any s W (by omega))
    unfold SplitRes at CS CI
    generalize fldF s = F at HL CS CI hl0
    generalize fldOk s = ok at CS CI
    cases ok
    all_goals
      go_enter Try.func5, Try.ntmps5
      go_wp2_with fail
      refine (CS.out _).mono ?_
      rintro e w1 ⟨v1, rfl, ho1, hb1⟩
      have S0 := hid hb1
      have R1 := hid (ho1.at_ HL.out)
      obtain ⟨A1, c1, rfl⟩ := ownS_form ho1
      clear hb1 ho1
      go_wp2_with fail
      refine (CI.out _).mono ?_
      rintro e w2 ⟨v2, rfl, ho2, hb2⟩
      have T2 := hid hb2
      have O2 := hid ho2
      obtain ⟨A2, c2, rfl⟩ := ownS_form ho2
      clear hb2 ho2
      go_wp2_with fail
      refine (eqStrs_same _ _ F _ (O2.out.at_ HL.out) (R1.out.below T2.out)).mono ?_
      rintro e w3 ⟨rfl, hb3⟩
      have T3 := hid (then_ T2.out hb3 T2.out.size)
      have O3 := hid (ownS_below O2.out hb3)
      clear hb3
      go_wp2_with fail
      refine (markS_any w1.heap.size _ F 1 _ O3.out HL.out (by omega) (by omega)).mono ?_
      rintro e w4 ⟨rfl, ho4, hg4⟩
      have T4 := hid (T3.out.grown hg4 T3.out.size (fun g hg => (O3.out.lt g hg).1))
      have O4 := hid ho4
      clear ho4 hg4
      have hn0 : (0 : Int) ≤ (F.length : Int) := by omega
      have hn1 : (F.length : Int) ≤ 1048577 := by omega
      go_wp2_with fail
      refine (heldS_any _ F.length 1 _ (O4.out.at_ (by rw [marksT_len]; exact HL.out)) (by omega) (by omega)).mono ?_
      rintro e w5 ⟨rfl, hb5⟩
      have T5 := hid (then_ T4.out hb5 T4.out.size)
      have O5 := hid (ownS_below O4.out hb5)
      clear hb5
      go_wp2_with fail
      refine (CI.out _).mono ?_
      rintro e w6 ⟨v3, rfl, ho6, hb6⟩
      have T6 := hid (then_ T5.out hb6 T5.out.size)
      have O6 := hid ho6
      have M6 := hid (ownS_below O5.out hb6)
      obtain ⟨A3, c3, rfl⟩ := ownS_form ho6
      clear hb6 ho6
      go_wp2_with fail
      refine (eqStrs_same _ _ F _ (O6.out.at_ HL.out) (R1.out.below T6.out)).mono ?_
      rintro e w7 ⟨rfl, hb7⟩
      have T7 := hid (then_ T6.out hb7 T6.out.size)
      have M7 := hid (ownS_below M6.out hb7)
      clear hb7
      go_wp2_with fail
      refine (heldS_any _ F.length 1 _ (M7.out.at_ (by rw [marksT_len]; exact HL.out)) (by omega) (by omega)).mono ?_
      rintro e w8 ⟨rfl, hb8⟩
      have T8 := hid (then_ T7.out hb8 T7.out.size)
      clear hb8
      go_wp2
      go_ret
      exact ⟨rfl, then_ S0.out T8.out S0.out.size⟩
end Go.Proofs.Ytmngmmjimkdcfaa

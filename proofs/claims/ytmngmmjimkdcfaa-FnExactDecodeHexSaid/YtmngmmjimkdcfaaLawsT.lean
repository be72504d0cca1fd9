/- The walks of the laws on EncodeHex and DecodeHex: each returns true for every string. No condition. -/
import Derived.Test.YtmngmmjimkdcfaaTextd
namespace Go.Proofs.Ytmngmmjimkdcfaa
open Go.ChangeShapes Go.WideShapes Go.ChangeAt Go.RowKit
set_option maxHeartbeats 1000000
set_option linter.unusedSimpArgs false
set_option linter.unusedVariables false
theorem FnExactEncodeHex_walk (w : World) (s : ByteArray) (hs : s.size ≤ maxLen) : Calls Try.prog 3 #[.string s] w fun e w' => e = .returned (.bool true) ∧ Below w.heap.size w w' := by
  unfold maxLen at hs
  by_cases hb : 1048576 < s.size
  · go_enter Try.func3, Try.ntmps3
    go_wp2
    go_ret
    exact ⟨rfl, Below.refl _ _⟩
  by_cases hl : 20000 < s.size
  · go_enter Try.func3, Try.ntmps3
    go_wp2_with fail
    refine (sEnc_no s _ hl (by omega)).mono ?_
    rintro e w1 ⟨rfl, hb1⟩
    have S1 := hid hb1
    clear hb1
    go_wp2_with fail
    refine (iEnc_no s _ hl (by omega)).mono ?_
    rintro e w2 ⟨rfl, hb2⟩
    have S2 := hid (then_ S1.out hb2 S1.out.size)
    clear hb2
    go_wp2
    go_ret
    exact ⟨rfl, S2.out⟩
  · go_enter Try.func3, Try.ntmps3
    go_wp2_with fail
    refine (sEnc_yes s _ (by omega)).mono ?_
    rintro e w1 ⟨rfl, hb1⟩
    have S1 := hid hb1
    clear hb1
    go_wp2_with fail
    refine (iEnc_yes s _ (by omega)).mono ?_
    rintro e w2 ⟨rfl, hb2⟩
    have S2 := hid (then_ S1.out hb2 S1.out.size)
    clear hb2
    go_wp2
    go_ret
    exact ⟨rfl, S2.out⟩
theorem FnExactDecodeHex_walk (w : World) (s : ByteArray) (hs : s.size ≤ maxLen) : Calls Try.prog 4 #[.string s] w fun e w' => e = .returned (.bool true) ∧ Below w.heap.size w w' := by
  unfold maxLen at hs
  by_cases hb : 1048576 < s.size
  · go_enter Try.func4, Try.ntmps4
    go_wp2
    go_ret
    exact ⟨rfl, Below.refl _ _⟩
  · go_enter Try.func4, Try.ntmps4
    go_wp2_with fail
    refine (sDec_any s _ (by omega)).mono ?_
    rintro e w1 ⟨rfl, hb1⟩
    have S1 := hid hb1
    clear hb1
    go_wp2_with fail
    refine (iDec_any s _ (by omega)).mono ?_
    rintro e w2 ⟨rfl, hb2⟩
    have S2 := hid (then_ S1.out hb2 S1.out.size)
    clear hb2
    go_wp2
    go_ret
    exact ⟨rfl, S2.out⟩
end Go.Proofs.Ytmngmmjimkdcfaa

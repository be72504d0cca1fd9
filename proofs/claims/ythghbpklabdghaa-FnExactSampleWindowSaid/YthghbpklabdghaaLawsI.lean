/- The walk of the law on the sample window: it returns true. No condition. -/
import Derived.Test.YthghbpklabdghaaMarkp
import Derived.Test.YthghbpklabdghaaSample
namespace Go.Proofs.Ythghbpklabdghaa
open Go.ChangeShapes Go.WideShapes Go.ChangeAt Go.RowKit
set_option maxHeartbeats 2000000
set_option linter.unusedSimpArgs false
set_option linter.unusedVariables false
theorem FnExactSampleWindow_walk (w : World) : Calls Try.prog 3 #[] w fun e w' => e = .returned (.bool true) ∧ Below w.heap.size w w' := by
  go_enter Try.func3, Try.ntmps3
  go_wp2_with fail
  refine (sSW_any _).mono ?_
  rintro e w1 ⟨p1, p2, rfl, ho1, ho2, hb⟩
  have P1 := hid ho1.pairs
  have P2 := hid ho2.pairs
  obtain ⟨a1, rfl, _, _, _⟩ := ho1
  obtain ⟨a2, rfl, _, _, _⟩ := ho2
  have S0 := hid hb
  have hb1 : Below w1.heap.size w1 (w1.alloc (.cells #[(.slice (some ⟨a1, 0, none⟩) smpN.length smpN.length), (.slice (some ⟨a2, 0, none⟩) smpL.length smpL.length)] 25)) := (Below.refl _ _).alloc (Nat.le_refl _) _
  have SA := hid (then_ S0.out hb1 S0.out.size)
  have PA1 := hid (P1.out.below hb1)
  have PA2 := hid (P2.out.below hb1)
  have XA1 := hid (BoxV.new w1 (.slice (some ⟨a1, 0, none⟩) smpN.length smpN.length) (.slice (some ⟨a2, 0, none⟩) smpL.length smpL.length) 25 w1.heap.size rfl)
  have T := hid (Below.refl (w1.alloc (.cells #[(.slice (some ⟨a1, 0, none⟩) smpN.length smpN.length), (.slice (some ⟨a2, 0, none⟩) smpL.length smpL.length)] 25)).heap.size (w1.alloc (.cells #[(.slice (some ⟨a1, 0, none⟩) smpN.length smpN.length), (.slice (some ⟨a2, 0, none⟩) smpL.length smpL.length)] 25)))
  have hsa : (w1.alloc (.cells #[(.slice (some ⟨a1, 0, none⟩) smpN.length smpN.length), (.slice (some ⟨a2, 0, none⟩) smpL.length smpL.length)] 25)).heap.size = w1.heap.size + 1 := by simp
  clear hb hb1 S0 P1 P2
  have X1 := XA1
  have x10 := X1.out.c0
  have x11 := X1.out.c1
  go_wp2_with fail
  refine (iSW_any _).mono ?_
  rintro e w2 ⟨q1, q2, rfl, ho1, ho2, hb⟩
  obtain ⟨b1, rfl, _, _, _⟩ := id ho1
  obtain ⟨b2, rfl, _, _, _⟩ := id ho2
  have lb1 : b1 < w2.heap.size := by obtain ⟨g, e, _, _, h⟩ := id ho1; injection e with e _ _; injection e with e; injection e with e; rw [e]; exact h.lt
  have lb2 : b2 < w2.heap.size := by obtain ⟨g, e, _, _, h⟩ := id ho2; injection e with e _ _; injection e with e; injection e with e; rw [e]; exact h.lt
  have Q1 := hid ho1
  have Q2 := hid ho2
  have T := hid (then_ T.out hb T.out.size)
  have P1 := hid (PA1.out.below T.out)
  have P2 := hid (PA2.out.below T.out)
  have X1 := hid (XA1.out.below T.out)
  have hb2 : Below w2.heap.size w2 (w2.alloc (.cells #[(.slice (some ⟨b1, 0, none⟩) smpN.length smpN.length), (.slice (some ⟨b2, 0, none⟩) smpL.length smpL.length)] 25)) := (Below.refl _ _).alloc (Nat.le_refl _) _
  have T := hid (then_ T.out hb2 T.out.size)
  have P1 := hid (PA1.out.below T.out)
  have P2 := hid (PA2.out.below T.out)
  have X1 := hid (XA1.out.below T.out)
  have Q1 := hid (OwnPairs.below (C := 0) Q1.out hb2)
  have Q2 := hid (OwnPairs.below (C := 0) Q2.out hb2)
  have X2 := hid (BoxV.new w2 (.slice (some ⟨b1, 0, none⟩) smpN.length smpN.length) (.slice (some ⟨b2, 0, none⟩) smpL.length smpL.length) 25 w2.heap.size rfl)
  clear hb hb2 ho1 ho2 x10 x11
  have x10 := X1.out.c0
  have x11 := X1.out.c1
  have x20 := X2.out.c0
  have x21 := X2.out.c1
  go_wp2_with fail
  refine (eqWindow_same _ _ _ _ smpN smpL _ Q1.out.pairs Q2.out.pairs P1.out P2.out).mono ?_
  rintro e w3 ⟨rfl, hb⟩
  have T := hid (then_ T.out hb T.out.size)
  have P1 := hid (PA1.out.below T.out)
  have P2 := hid (PA2.out.below T.out)
  have X1 := hid (XA1.out.below T.out)
  have Q1 := hid (OwnPairs.below (C := 0) Q1.out hb)
  have Q2 := hid (OwnPairs.below (C := 0) Q2.out hb)
  have X2 := hid (X2.out.below hb)
  clear hb x10 x11 x20 x21
  have x10 := X1.out.c0
  have x11 := X1.out.c1
  have x20 := X2.out.c0
  have x21 := X2.out.c1
  go_wp2_with fail
  refine (markWindow_all (w1.alloc (.cells #[(.slice (some ⟨a1, 0, none⟩) smpN.length smpN.length), (.slice (some ⟨a2, 0, none⟩) smpL.length smpL.length)] 25)).heap.size _ _ smpN smpL _ _ Q1.out Q2.out (by omega) (by omega) T.out.size).mono ?_
  rintro e w4 ⟨rfl, m1, m2, hb, hk⟩
  have Q1 := hid m1
  have Q2 := hid m2
  have X2 := hid (X2.out.other (hk _ X2.out.lt (fun e => by injection e with e; have e : w2.heap.size = b1 := e; omega) (fun e => by injection e with e; have e : w2.heap.size = b2 := e; omega)) hb.size)
  have T := hid (T.out.trans hb)
  clear hb hk m1 m2 x10 x11 x20 x21
  have P1 := hid (PA1.out.below T.out)
  have P2 := hid (PA2.out.below T.out)
  have X1 := hid (XA1.out.below T.out)
  have x10 := X1.out.c0
  have x11 := X1.out.c1
  have x20 := X2.out.c0
  have x21 := X2.out.c1
  go_wp2_with fail
  refine (heldWindow_all _ _ smpN.length smpL.length _ _ Q1.out.pairs Q2.out.pairs (by decide) (by decide) (by omega) (by omega)).mono ?_
  rintro e w5 ⟨rfl, hb⟩
  have T := hid (then_ T.out hb T.out.size)
  have P1 := hid (PA1.out.below T.out)
  have P2 := hid (PA2.out.below T.out)
  have X1 := hid (XA1.out.below T.out)
  have Q1 := hid (OwnPairs.below (C := 0) Q1.out hb)
  have Q2 := hid (OwnPairs.below (C := 0) Q2.out hb)
  have X2 := hid (X2.out.below hb)
  clear hb x10 x11 x20 x21
  have x10 := X1.out.c0
  have x11 := X1.out.c1
  have x20 := X2.out.c0
  have x21 := X2.out.c1
  go_wp2_with fail
  refine (iSW_any _).mono ?_
  rintro e w6 ⟨r1, r2, rfl, ho1, ho2, hb⟩
  have R1 := hid ho1.pairs
  have R2 := hid ho2.pairs
  obtain ⟨d1, rfl, _, _, _⟩ := id ho1
  obtain ⟨d2, rfl, _, _, _⟩ := id ho2
  have T := hid (then_ T.out hb T.out.size)
  have P1 := hid (PA1.out.below T.out)
  have P2 := hid (PA2.out.below T.out)
  have X1 := hid (XA1.out.below T.out)
  have Q1 := hid (OwnPairs.below (C := 0) Q1.out hb)
  have Q2 := hid (OwnPairs.below (C := 0) Q2.out hb)
  have X2 := hid (X2.out.below hb)
  have hb2 : Below w6.heap.size w6 (w6.alloc (.cells #[(.slice (some ⟨d1, 0, none⟩) smpN.length smpN.length), (.slice (some ⟨d2, 0, none⟩) smpL.length smpL.length)] 25)) := (Below.refl _ _).alloc (Nat.le_refl _) _
  have T := hid (then_ T.out hb2 T.out.size)
  have P1 := hid (PA1.out.below T.out)
  have P2 := hid (PA2.out.below T.out)
  have X1 := hid (XA1.out.below T.out)
  have Q1 := hid (OwnPairs.below (C := 0) Q1.out hb2)
  have Q2 := hid (OwnPairs.below (C := 0) Q2.out hb2)
  have X2 := hid (X2.out.below hb2)
  have R1 := hid (R1.out.below hb2)
  have R2 := hid (R2.out.below hb2)
  have X5 := hid (BoxV.new w6 (.slice (some ⟨d1, 0, none⟩) smpN.length smpN.length) (.slice (some ⟨d2, 0, none⟩) smpL.length smpL.length) 25 w6.heap.size rfl)
  clear hb hb2 ho1 ho2 x10 x11 x20 x21
  have x10 := X1.out.c0
  have x11 := X1.out.c1
  have x20 := X2.out.c0
  have x21 := X2.out.c1
  have x50 := X5.out.c0
  have x51 := X5.out.c1
  go_wp2_with fail
  refine (eqWindow_same _ _ _ _ smpN smpL _ R1.out R2.out P1.out P2.out).mono ?_
  rintro e w7 ⟨rfl, hb⟩
  have T := hid (then_ T.out hb T.out.size)
  have P1 := hid (PA1.out.below T.out)
  have P2 := hid (PA2.out.below T.out)
  have X1 := hid (XA1.out.below T.out)
  have Q1 := hid (OwnPairs.below (C := 0) Q1.out hb)
  have Q2 := hid (OwnPairs.below (C := 0) Q2.out hb)
  have X2 := hid (X2.out.below hb)
  clear hb x10 x11 x20 x21 x50 x51
  have x10 := X1.out.c0
  have x11 := X1.out.c1
  have x20 := X2.out.c0
  have x21 := X2.out.c1
  go_wp2_with fail
  refine (heldWindow_all _ _ smpN.length smpL.length _ _ Q1.out.pairs Q2.out.pairs (by decide) (by decide) (by omega) (by omega)).mono ?_
  rintro e w8 ⟨rfl, hb⟩
  have T := hid (then_ T.out hb T.out.size)
  have P1 := hid (PA1.out.below T.out)
  have P2 := hid (PA2.out.below T.out)
  have X1 := hid (XA1.out.below T.out)
  clear hb x10 x11 x20 x21
  go_wp2
  go_ret
  exact ⟨rfl, SA.out.trans (T.out.mono SA.out.size)⟩
end Go.Proofs.Ythghbpklabdghaa

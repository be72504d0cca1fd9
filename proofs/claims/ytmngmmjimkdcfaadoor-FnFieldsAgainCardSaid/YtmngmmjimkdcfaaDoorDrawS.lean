/- The line that the law FnFieldsAgain draws, and the comparison of two slices of strings. No condition but the sizes that are named. -/
import Derived.Test.YtmngmmjimkdcfaaDoorDrawT
namespace Go.Proofs.YtmngmmjimkdcfaaDoor
open Go.ChangeShapes Go.WideShapes Go.ChangeAt Go.RowKit
set_option maxHeartbeats 2000000
set_option linter.unusedSimpArgs false
set_option linter.unusedVariables false
theorem curPickS_any (p g m c : Nat) (w : World) (H : Cur w p) (hg : g < w.heap.size) (hp : g ≠ p) (h0 : 0 < m) (h1 : m ≤ 1000) (hc : ∀ k, k < m → ∃ x : ByteArray, x.size ≤ 10 ∧ w.cell? ⟨g, k, none⟩ = some (.string x)) :
    Calls Tryd.prog 29 #[.pointer (some ⟨p, 0, none⟩), .slice (some ⟨g, 0, none⟩) m c] w (fun e w' => ∃ x : ByteArray, x.size ≤ 10 ∧ e = .returned (.string x) ∧ Cur w' p ∧ w.grownBy w' (some p)) := by
  have HH := hid H
  have HC := hid hc
  clear H hc
  go_enter Tryd.func29, Tryd.ntmps29
  go_wp2_with fail
  refine (curBelow_any p (m : Int) _ HH.out (by omega) (by omega)).mono ?_
  rintro e w1 ⟨x, hx0, hx1, rfl, hk, hg1⟩
  have K := hid hk
  have G := hid hg1
  clear hk hg1
  obtain ⟨k, rfl⟩ : ∃ k : Nat, x = (k : Int) := ⟨x.toNat, by omega⟩
  have hkm : k < m := by omega
  obtain ⟨y, y0, hy⟩ := HC.out k hkm
  have hy' : w1.cell? ⟨g, k, none⟩ = some (.string y) := G.out.cell hy (fun e => hp (by injection e))
  have Y := hid y0
  clear hy hx1 y0
  go_wp2
  go_ret
  exact ⟨y, Y.out, rfl, K.out, G.out⟩
theorem size_add (a b : ByteArray) : (a ++ b).size = a.size + b.size := ByteArray.size_append
/-- a world in which the cursor p stands still and nothing below B has changed -/
def Still (B p : Nat) (w wr : World) : Prop := Cur wr p ∧ Below B w wr ∧ B ≤ p
theorem Still.step {B p : Nat} {w wr w' : World} (h : Still B p w wr) (hc : Cur w' p) (hg : wr.grownBy w' (some p)) : Still B p w w' := ⟨hc, h.2.1.grown hg (Nat.le_trans h.2.2 (Nat.le_of_lt h.1.lt)) (fun g hg => by cases hg; exact h.2.2), h.2.2⟩
theorem Still.below {B p : Nat} {w wr w' : World} (h : Still B p w wr) (hb : Below wr.heap.size wr w') : Still B p w w' := ⟨h.1.below hb, then_ h.2.1 hb (Nat.le_trans h.2.2 (Nat.le_of_lt h.1.lt)), h.2.2⟩
theorem drawSplit_any (A : Option Addr) (n c : Nat) (w : World) (hb : LoBytes w A n) (hn : n ≤ 1048576) : Calls Tryd.prog 17 #[.slice A n c] w (DrawStr 1000000 w) := by
  have LB := hid hb
  clear hb
  go_enter Tryd.func17, Tryd.ntmps17
  go_wp2_with fail
  refine (curNew_any A n c _ LB.out hn).mono ?_
  rintro e w1 ⟨p, rfl, hp, hc, hb⟩
  have S1 := hid (show Still w.heap.size p w w1 from ⟨hc, hb, hp⟩)
  clear hc hb
  go_wp2_with fail
  refine (curBelow_any p 9 _ S1.out.1 (by omega) (by omega)).mono ?_
  rintro e w2 ⟨m, m0, m1, rfl, hc, hg⟩
  have S2 := hid (S1.out.step hc hg)
  clear hc hg
  go_wp2_with fail
  refine (curOnce_any p 15 _ S2.out.1 (by omega) (by omega)).mono ?_
  rintro e w3 ⟨b, rfl, hc, hg⟩
  have S3 := hid (S2.out.step hc hg)
  clear hc hg
  cases b
  · have m1 : m ≤ 25 := by omega
    go_wp2_with fail
    go_loopw [5, 6] (fun v i wr => ∃ (k : Nat) (t : ByteArray), k ≤ 25 ∧ i = .int .i64 k ∧ v = .string t ∧ t.size ≤ 8 * k ∧ Hid (Still w.heap.size p w wr)) (fun _ i _ => 26 - (intOf i).toNat)
    case atStart => exact ⟨0, ⟨#[]⟩, by omega, rfl, rfl, Nat.le_refl _, S3⟩
    case round =>
      obtain ⟨k, t, hk, rfl, rfl, ht, T⟩ := hrel
      clear S3 S2 S1
      by_cases hlt : (k : Int) < m
      · have ht : t.size ≤ 8 * k + 3 := by omega
        by_cases hk0 : k = 0
        · have hk2 : ¬ (0 : Int) < (k : Int) := by omega
          go_wp2_with fail
          refine (curOnce_any p 5 _ T.out.1 (by omega) (by omega)).mono ?_
          rintro e w4 ⟨b, rfl, hc, hg⟩
          have T := hid (T.out.step hc hg)
          clear hc hg
          cases b
          · go_wp2_with fail
            go_loopw [5, 7] (fun v i wr => ∃ (j : Nat) (t : ByteArray), j ≤ 5 ∧ i = .int .i64 j ∧ v = .string t ∧ t.size ≤ 8 * k + 3 + j ∧ Hid (Still w.heap.size p w wr)) (fun _ i _ => 6 - (intOf i).toNat)
            case atStart => exact ⟨0, t, by omega, rfl, rfl, by omega, T⟩
            case round =>
              clear ht T
              obtain ⟨j, t, hj, rfl, rfl, ht, T⟩ := hrel
              go_wp2_with fail
              refine (curBelow_any p 5 _ T.out.1 (by omega) (by omega)).mono ?_
              rintro e w7 ⟨x, x0, x1, rfl, hc, hg⟩
              have T := hid (T.out.step hc hg)
              clear hc hg
              by_cases hj2 : (j : Int) ≤ x
              · go_wp2_with fail
                refine (curBelow_any p 94 _ T.out.1 (by omega) (by omega)).mono ?_
                rintro e w8 ⟨y, y0, y1, rfl, hc, hg⟩
                have T := hid (T.out.step hc hg)
                clear hc hg
                have q0 : IntKind.u8.wrap (33 + y) = 33 + y := by rw [IntKind.wrap_u8]; omega
                obtain ⟨cc, hcc⟩ : ∃ c : UInt8, (c.toNat : Int) = 33 + y := ⟨UInt8.ofNat (33 + y).toNat, by rw [UInt8.toNat_ofNat_of_lt' (by show _ < 256; omega)]; omega⟩
                have cv := conv_one w8 cc (33 + y) hcc
                clear hcc
                have hsz : t.size + (⟨#[cc]⟩ : ByteArray).size ≤ 9223372036854775807 := by show t.size + 1 ≤ _; omega
                have HT := hid (show (t ++ ⟨#[cc]⟩).size ≤ 8 * k + 3 + (j + 1) by rw [size_add]; show t.size + 1 ≤ _; omega)
                have T := hid (T.out.below ((Below.refl _ _).alloc (Nat.le_refl _) (.cells #[.int .u8 (33 + y)] 5)))
                go_wp2
                go_roundw
                case rel => exact ⟨j + 1, t ++ ⟨#[cc]⟩, by omega, by go_num, rfl, HT.out, T⟩
                case measure => simp [intOf]; omega
              · go_wp2
                go_roundw
                case rel => exact ⟨k + 1, t, by omega, by go_num, rfl, by omega, T⟩
                case measure => simp [intOf]; omega
          · skip
            go_wp2_with fail
            refine (curBelow_any p 2 _ T.out.1 (by omega) (by omega)).mono ?_
            rintro e w4 ⟨x, x0, x1, rfl, hc, hg⟩
            have T := hid (T.out.step hc hg)
            clear hc hg
            go_wp2_with fail
            refine (curBelow_any p 3 _ T.out.1 (by omega) (by omega)).mono ?_
            rintro e w5 ⟨y, y0, y1, rfl, hc, hg⟩
            have T := hid (T.out.step hc hg)
            clear hc hg
            have hx : x = 0 ∨ x = 1 := by omega
            have hxy : 0 ≤ x * y ∧ x * y ≤ 2 := by rcases hx with rfl | rfl <;> omega
            obtain ⟨z, hz⟩ : ∃ z : Nat, x * y = (z : Int) := ⟨(x * y).toNat, by omega⟩
            have hzz : 1 + (z : Int) = ((1 + z : Nat) : Int) := by omega
            have hz2 : z ≤ 2 := by omega
            have LA := hid (fun W => show Calls Tryd.prog 27 #[.int .i64 (1 + (z : Int)), .int .u8 32] W (StrLen (1 + z) (1 + z) W) by
              rw [hzz]; exact long_any (1 + z) 32 W (by omega) ⟨32, rfl⟩)
            clear hx hxy hzz
            go_wp2_with fail
            refine (LA.out _).mono ?_
            rintro e w6 ⟨u, hu0, hu, rfl, hb⟩
            have T := hid (T.out.below hb)
            clear hb LA
            have hsz : t.size + u.size ≤ 9223372036854775807 := by omega
            have ht := (show (t ++ u).size ≤ 8 * k + 3 by rw [size_add]; omega)
            go_wp2_with fail
            generalize t ++ u = t at ht ⊢
            go_loopw [5, 7] (fun v i wr => ∃ (j : Nat) (t : ByteArray), j ≤ 5 ∧ i = .int .i64 j ∧ v = .string t ∧ t.size ≤ 8 * k + 3 + j ∧ Hid (Still w.heap.size p w wr)) (fun _ i _ => 6 - (intOf i).toNat)
            case atStart => exact ⟨0, t, by omega, rfl, rfl, by omega, T⟩
            case round =>
              clear ht T
              obtain ⟨j, t, hj, rfl, rfl, ht, T⟩ := hrel
              go_wp2_with fail
              refine (curBelow_any p 5 _ T.out.1 (by omega) (by omega)).mono ?_
              rintro e w7 ⟨x, x0, x1, rfl, hc, hg⟩
              have T := hid (T.out.step hc hg)
              clear hc hg
              by_cases hj2 : (j : Int) ≤ x
              · go_wp2_with fail
                refine (curBelow_any p 94 _ T.out.1 (by omega) (by omega)).mono ?_
                rintro e w8 ⟨y, y0, y1, rfl, hc, hg⟩
                have T := hid (T.out.step hc hg)
                clear hc hg
                have q0 : IntKind.u8.wrap (33 + y) = 33 + y := by rw [IntKind.wrap_u8]; omega
                obtain ⟨cc, hcc⟩ : ∃ c : UInt8, (c.toNat : Int) = 33 + y := ⟨UInt8.ofNat (33 + y).toNat, by rw [UInt8.toNat_ofNat_of_lt' (by show _ < 256; omega)]; omega⟩
                have cv := conv_one w8 cc (33 + y) hcc
                clear hcc
                have hsz : t.size + (⟨#[cc]⟩ : ByteArray).size ≤ 9223372036854775807 := by show t.size + 1 ≤ _; omega
                have HT := hid (show (t ++ ⟨#[cc]⟩).size ≤ 8 * k + 3 + (j + 1) by rw [size_add]; show t.size + 1 ≤ _; omega)
                have T := hid (T.out.below ((Below.refl _ _).alloc (Nat.le_refl _) (.cells #[.int .u8 (33 + y)] 5)))
                go_wp2
                go_roundw
                case rel => exact ⟨j + 1, t ++ ⟨#[cc]⟩, by omega, by go_num, rfl, HT.out, T⟩
                case measure => simp [intOf]; omega
              · go_wp2
                go_roundw
                case rel => exact ⟨k + 1, t, by omega, by go_num, rfl, by omega, T⟩
                case measure => simp [intOf]; omega
        · have hk2 : (0 : Int) < (k : Int) := by omega
          go_wp2_with fail
          refine (curBelow_any p 2 _ T.out.1 (by omega) (by omega)).mono ?_
          rintro e w4 ⟨x, x0, x1, rfl, hc, hg⟩
          have T := hid (T.out.step hc hg)
          clear hc hg
          go_wp2_with fail
          refine (curBelow_any p 3 _ T.out.1 (by omega) (by omega)).mono ?_
          rintro e w5 ⟨y, y0, y1, rfl, hc, hg⟩
          have T := hid (T.out.step hc hg)
          clear hc hg
          have hx : x = 0 ∨ x = 1 := by omega
          have hxy : 0 ≤ x * y ∧ x * y ≤ 2 := by rcases hx with rfl | rfl <;> omega
          obtain ⟨z, hz⟩ : ∃ z : Nat, x * y = (z : Int) := ⟨(x * y).toNat, by omega⟩
          have hzz : 1 + (z : Int) = ((1 + z : Nat) : Int) := by omega
          have hz2 : z ≤ 2 := by omega
          have LA := hid (fun W => show Calls Tryd.prog 27 #[.int .i64 (1 + (z : Int)), .int .u8 32] W (StrLen (1 + z) (1 + z) W) by
            rw [hzz]; exact long_any (1 + z) 32 W (by omega) ⟨32, rfl⟩)
          clear hx hxy hzz
          go_wp2_with fail
          refine (LA.out _).mono ?_
          rintro e w6 ⟨u, hu0, hu, rfl, hb⟩
          have T := hid (T.out.below hb)
          clear hb LA
          have hsz : t.size + u.size ≤ 9223372036854775807 := by omega
          have ht := (show (t ++ u).size ≤ 8 * k + 3 by rw [size_add]; omega)
          go_wp2_with fail
          generalize t ++ u = t at ht ⊢
          go_loopw [5, 7] (fun v i wr => ∃ (j : Nat) (t : ByteArray), j ≤ 5 ∧ i = .int .i64 j ∧ v = .string t ∧ t.size ≤ 8 * k + 3 + j ∧ Hid (Still w.heap.size p w wr)) (fun _ i _ => 6 - (intOf i).toNat)
          case atStart => exact ⟨0, t, by omega, rfl, rfl, by omega, T⟩
          case round =>
            clear ht T
            obtain ⟨j, t, hj, rfl, rfl, ht, T⟩ := hrel
            go_wp2_with fail
            refine (curBelow_any p 5 _ T.out.1 (by omega) (by omega)).mono ?_
            rintro e w7 ⟨x, x0, x1, rfl, hc, hg⟩
            have T := hid (T.out.step hc hg)
            clear hc hg
            by_cases hj2 : (j : Int) ≤ x
            · go_wp2_with fail
              refine (curBelow_any p 94 _ T.out.1 (by omega) (by omega)).mono ?_
              rintro e w8 ⟨y, y0, y1, rfl, hc, hg⟩
              have T := hid (T.out.step hc hg)
              clear hc hg
              have q0 : IntKind.u8.wrap (33 + y) = 33 + y := by rw [IntKind.wrap_u8]; omega
              obtain ⟨cc, hcc⟩ : ∃ c : UInt8, (c.toNat : Int) = 33 + y := ⟨UInt8.ofNat (33 + y).toNat, by rw [UInt8.toNat_ofNat_of_lt' (by show _ < 256; omega)]; omega⟩
              have cv := conv_one w8 cc (33 + y) hcc
              clear hcc
              have hsz : t.size + (⟨#[cc]⟩ : ByteArray).size ≤ 9223372036854775807 := by show t.size + 1 ≤ _; omega
              have HT := hid (show (t ++ ⟨#[cc]⟩).size ≤ 8 * k + 3 + (j + 1) by rw [size_add]; show t.size + 1 ≤ _; omega)
              have T := hid (T.out.below ((Below.refl _ _).alloc (Nat.le_refl _) (.cells #[.int .u8 (33 + y)] 5)))
              go_wp2
              go_roundw
              case rel => exact ⟨j + 1, t ++ ⟨#[cc]⟩, by omega, by go_num, rfl, HT.out, T⟩
              case measure => simp [intOf]; omega
            · go_wp2
              go_roundw
              case rel => exact ⟨k + 1, t, by omega, by go_num, rfl, by omega, T⟩
              case measure => simp [intOf]; omega
      · skip
        have ht := (show t.size ≤ 200 by omega)

        go_wp2_with fail
        clear hlt hk
        refine (curBelow_any p 12 _ T.out.1 (by omega) (by omega)).mono ?_
        rintro e w7 ⟨x, x0, x1, rfl, hc, hg⟩
        have T := hid (T.out.step hc hg)
        clear hc hg
        by_cases hx0 : x = 0
        · subst hx0
          go_wp2_with fail
          refine (curPickS_any p w7.heap.size 6 6 _ (T.out.1.alloc _) (by simp) (by have := T.out.1.lt; omega) (by omega) (by omega) (fun k hk => ?_)).mono ?_
          · rw [cell_new _ _ _ _ _ rfl]
            have : k = 0 ∨ k = 1 ∨ k = 2 ∨ k = 3 ∨ k = 4 ∨ k = 5 := by omega
            rcases this with rfl | rfl | rfl | rfl | rfl | rfl
            all_goals exact ⟨_, by decide, rfl⟩
          · rintro e w8 ⟨u, hu, rfl, hc, hg⟩
            have T := hid ((T.out.below ((Below.refl _ _).alloc (Nat.le_refl _) _)).step hc hg)
            clear hc hg
            have hsz : t.size + u.size ≤ 9223372036854775807 := by omega
            have HT := hid (show (t ++ u).size ≤ 1000000 by rw [size_add]; omega)
            go_wp2
            go_ret
            exact ⟨_, HT.out, rfl, T.out.2.1⟩
        by_cases hx1 : x = 1
        · subst hx1
          have hlt6 : (t.size : Int) < 600 := by omega
          go_wp2_with fail
          refine (curBelow_any p 2 _ T.out.1 (by omega) (by omega)).mono ?_
          rintro e w8 ⟨y, y0, y1, rfl, hc, hg⟩
          have T := hid (T.out.step hc hg)
          clear hc hg
          obtain ⟨z, rfl⟩ : ∃ z : Nat, y = (z : Int) := ⟨y.toNat, by omega⟩
          have hzz : 600 - (t.size : Int) + (z : Int) = ((600 - t.size + z : Nat) : Int) := by omega
          have LA := hid (fun W => show Calls Tryd.prog 27 #[.int .i64 (600 - (t.size : Int) + (z : Int)), .int .u8 32] W (StrLen (600 - t.size + z) (600 - t.size + z) W) by
            rw [hzz]; exact long_any (600 - t.size + z) 32 W (by omega) ⟨32, rfl⟩)
          clear hzz
          go_wp2_with fail
          refine (LA.out _).mono ?_
          rintro e w9 ⟨u, hu0, hu, rfl, hb⟩
          have T := hid (T.out.below hb)
          clear hb LA
          have hsz : t.size + u.size ≤ 9223372036854775807 := by omega
          have HT := hid (show (t ++ u).size ≤ 1000000 by rw [size_add]; omega)
          go_wp2
          go_ret
          exact ⟨_, HT.out, rfl, T.out.2.1⟩
        have b0 : (x == 0) = false := by simp [hx0]
        have b1 : (x == 1) = false := by simp [hx1]
        have HT := hid (show t.size ≤ 1000000 by omega)
        clear hx0 hx1
        go_wp2
        go_ret
        exact ⟨_, HT.out, rfl, T.out.2.1⟩
  · go_wp2_with fail
    refine (curBelow_any p 2 _ S3.out.1 (by omega) (by omega)).mono ?_
    rintro e w4 ⟨y, y0, y1, rfl, hc, hg⟩
    have S3 := hid (S3.out.step hc hg)
    clear hc hg m0 m1
    obtain ⟨m, hm⟩ : ∃ m, m = 24 + y := ⟨_, rfl⟩
    have m0 : 0 ≤ m := by omega
    have m1 : m ≤ 25 := by omega
    go_wp2_with fail
    rw [← hm]
    clear hm y0 y1
    go_wp2_with fail
    go_loopw [5, 6] (fun v i wr => ∃ (k : Nat) (t : ByteArray), k ≤ 25 ∧ i = .int .i64 k ∧ v = .string t ∧ t.size ≤ 8 * k ∧ Hid (Still w.heap.size p w wr)) (fun _ i _ => 26 - (intOf i).toNat)
    case atStart => exact ⟨0, ⟨#[]⟩, by omega, rfl, rfl, Nat.le_refl _, S3⟩
    case round =>
      obtain ⟨k, t, hk, rfl, rfl, ht, T⟩ := hrel
      clear S3 S2 S1
      by_cases hlt : (k : Int) < m
      · have ht : t.size ≤ 8 * k + 3 := by omega
        by_cases hk0 : k = 0
        · have hk2 : ¬ (0 : Int) < (k : Int) := by omega
          go_wp2_with fail
          refine (curOnce_any p 5 _ T.out.1 (by omega) (by omega)).mono ?_
          rintro e w4 ⟨b, rfl, hc, hg⟩
          have T := hid (T.out.step hc hg)
          clear hc hg
          cases b
          · go_wp2_with fail
            go_loopw [5, 7] (fun v i wr => ∃ (j : Nat) (t : ByteArray), j ≤ 5 ∧ i = .int .i64 j ∧ v = .string t ∧ t.size ≤ 8 * k + 3 + j ∧ Hid (Still w.heap.size p w wr)) (fun _ i _ => 6 - (intOf i).toNat)
            case atStart => exact ⟨0, t, by omega, rfl, rfl, by omega, T⟩
            case round =>
              clear ht T
              obtain ⟨j, t, hj, rfl, rfl, ht, T⟩ := hrel
              go_wp2_with fail
              refine (curBelow_any p 5 _ T.out.1 (by omega) (by omega)).mono ?_
              rintro e w7 ⟨x, x0, x1, rfl, hc, hg⟩
              have T := hid (T.out.step hc hg)
              clear hc hg
              by_cases hj2 : (j : Int) ≤ x
              · go_wp2_with fail
                refine (curBelow_any p 94 _ T.out.1 (by omega) (by omega)).mono ?_
                rintro e w8 ⟨y, y0, y1, rfl, hc, hg⟩
                have T := hid (T.out.step hc hg)
                clear hc hg
                have q0 : IntKind.u8.wrap (33 + y) = 33 + y := by rw [IntKind.wrap_u8]; omega
                obtain ⟨cc, hcc⟩ : ∃ c : UInt8, (c.toNat : Int) = 33 + y := ⟨UInt8.ofNat (33 + y).toNat, by rw [UInt8.toNat_ofNat_of_lt' (by show _ < 256; omega)]; omega⟩
                have cv := conv_one w8 cc (33 + y) hcc
                clear hcc
                have hsz : t.size + (⟨#[cc]⟩ : ByteArray).size ≤ 9223372036854775807 := by show t.size + 1 ≤ _; omega
                have HT := hid (show (t ++ ⟨#[cc]⟩).size ≤ 8 * k + 3 + (j + 1) by rw [size_add]; show t.size + 1 ≤ _; omega)
                have T := hid (T.out.below ((Below.refl _ _).alloc (Nat.le_refl _) (.cells #[.int .u8 (33 + y)] 5)))
                go_wp2
                go_roundw
                case rel => exact ⟨j + 1, t ++ ⟨#[cc]⟩, by omega, by go_num, rfl, HT.out, T⟩
                case measure => simp [intOf]; omega
              · go_wp2
                go_roundw
                case rel => exact ⟨k + 1, t, by omega, by go_num, rfl, by omega, T⟩
                case measure => simp [intOf]; omega
          · skip
            go_wp2_with fail
            refine (curBelow_any p 2 _ T.out.1 (by omega) (by omega)).mono ?_
            rintro e w4 ⟨x, x0, x1, rfl, hc, hg⟩
            have T := hid (T.out.step hc hg)
            clear hc hg
            go_wp2_with fail
            refine (curBelow_any p 3 _ T.out.1 (by omega) (by omega)).mono ?_
            rintro e w5 ⟨y, y0, y1, rfl, hc, hg⟩
            have T := hid (T.out.step hc hg)
            clear hc hg
            have hx : x = 0 ∨ x = 1 := by omega
            have hxy : 0 ≤ x * y ∧ x * y ≤ 2 := by rcases hx with rfl | rfl <;> omega
            obtain ⟨z, hz⟩ : ∃ z : Nat, x * y = (z : Int) := ⟨(x * y).toNat, by omega⟩
            have hzz : 1 + (z : Int) = ((1 + z : Nat) : Int) := by omega
            have hz2 : z ≤ 2 := by omega
            have LA := hid (fun W => show Calls Tryd.prog 27 #[.int .i64 (1 + (z : Int)), .int .u8 32] W (StrLen (1 + z) (1 + z) W) by
              rw [hzz]; exact long_any (1 + z) 32 W (by omega) ⟨32, rfl⟩)
            clear hx hxy hzz
            go_wp2_with fail
            refine (LA.out _).mono ?_
            rintro e w6 ⟨u, hu0, hu, rfl, hb⟩
            have T := hid (T.out.below hb)
            clear hb LA
            have hsz : t.size + u.size ≤ 9223372036854775807 := by omega
            have ht := (show (t ++ u).size ≤ 8 * k + 3 by rw [size_add]; omega)
            go_wp2_with fail
            generalize t ++ u = t at ht ⊢
            go_loopw [5, 7] (fun v i wr => ∃ (j : Nat) (t : ByteArray), j ≤ 5 ∧ i = .int .i64 j ∧ v = .string t ∧ t.size ≤ 8 * k + 3 + j ∧ Hid (Still w.heap.size p w wr)) (fun _ i _ => 6 - (intOf i).toNat)
            case atStart => exact ⟨0, t, by omega, rfl, rfl, by omega, T⟩
            case round =>
              clear ht T
              obtain ⟨j, t, hj, rfl, rfl, ht, T⟩ := hrel
              go_wp2_with fail
              refine (curBelow_any p 5 _ T.out.1 (by omega) (by omega)).mono ?_
              rintro e w7 ⟨x, x0, x1, rfl, hc, hg⟩
              have T := hid (T.out.step hc hg)
              clear hc hg
              by_cases hj2 : (j : Int) ≤ x
              · go_wp2_with fail
                refine (curBelow_any p 94 _ T.out.1 (by omega) (by omega)).mono ?_
                rintro e w8 ⟨y, y0, y1, rfl, hc, hg⟩
                have T := hid (T.out.step hc hg)
                clear hc hg
                have q0 : IntKind.u8.wrap (33 + y) = 33 + y := by rw [IntKind.wrap_u8]; omega
                obtain ⟨cc, hcc⟩ : ∃ c : UInt8, (c.toNat : Int) = 33 + y := ⟨UInt8.ofNat (33 + y).toNat, by rw [UInt8.toNat_ofNat_of_lt' (by show _ < 256; omega)]; omega⟩
                have cv := conv_one w8 cc (33 + y) hcc
                clear hcc
                have hsz : t.size + (⟨#[cc]⟩ : ByteArray).size ≤ 9223372036854775807 := by show t.size + 1 ≤ _; omega
                have HT := hid (show (t ++ ⟨#[cc]⟩).size ≤ 8 * k + 3 + (j + 1) by rw [size_add]; show t.size + 1 ≤ _; omega)
                have T := hid (T.out.below ((Below.refl _ _).alloc (Nat.le_refl _) (.cells #[.int .u8 (33 + y)] 5)))
                go_wp2
                go_roundw
                case rel => exact ⟨j + 1, t ++ ⟨#[cc]⟩, by omega, by go_num, rfl, HT.out, T⟩
                case measure => simp [intOf]; omega
              · go_wp2
                go_roundw
                case rel => exact ⟨k + 1, t, by omega, by go_num, rfl, by omega, T⟩
                case measure => simp [intOf]; omega
        · have hk2 : (0 : Int) < (k : Int) := by omega
          go_wp2_with fail
          refine (curBelow_any p 2 _ T.out.1 (by omega) (by omega)).mono ?_
          rintro e w4 ⟨x, x0, x1, rfl, hc, hg⟩
          have T := hid (T.out.step hc hg)
          clear hc hg
          go_wp2_with fail
          refine (curBelow_any p 3 _ T.out.1 (by omega) (by omega)).mono ?_
          rintro e w5 ⟨y, y0, y1, rfl, hc, hg⟩
          have T := hid (T.out.step hc hg)
          clear hc hg
          have hx : x = 0 ∨ x = 1 := by omega
          have hxy : 0 ≤ x * y ∧ x * y ≤ 2 := by rcases hx with rfl | rfl <;> omega
          obtain ⟨z, hz⟩ : ∃ z : Nat, x * y = (z : Int) := ⟨(x * y).toNat, by omega⟩
          have hzz : 1 + (z : Int) = ((1 + z : Nat) : Int) := by omega
          have hz2 : z ≤ 2 := by omega
          have LA := hid (fun W => show Calls Tryd.prog 27 #[.int .i64 (1 + (z : Int)), .int .u8 32] W (StrLen (1 + z) (1 + z) W) by
            rw [hzz]; exact long_any (1 + z) 32 W (by omega) ⟨32, rfl⟩)
          clear hx hxy hzz
          go_wp2_with fail
          refine (LA.out _).mono ?_
          rintro e w6 ⟨u, hu0, hu, rfl, hb⟩
          have T := hid (T.out.below hb)
          clear hb LA
          have hsz : t.size + u.size ≤ 9223372036854775807 := by omega
          have ht := (show (t ++ u).size ≤ 8 * k + 3 by rw [size_add]; omega)
          go_wp2_with fail
          generalize t ++ u = t at ht ⊢
          go_loopw [5, 7] (fun v i wr => ∃ (j : Nat) (t : ByteArray), j ≤ 5 ∧ i = .int .i64 j ∧ v = .string t ∧ t.size ≤ 8 * k + 3 + j ∧ Hid (Still w.heap.size p w wr)) (fun _ i _ => 6 - (intOf i).toNat)
          case atStart => exact ⟨0, t, by omega, rfl, rfl, by omega, T⟩
          case round =>
            clear ht T
            obtain ⟨j, t, hj, rfl, rfl, ht, T⟩ := hrel
            go_wp2_with fail
            refine (curBelow_any p 5 _ T.out.1 (by omega) (by omega)).mono ?_
            rintro e w7 ⟨x, x0, x1, rfl, hc, hg⟩
            have T := hid (T.out.step hc hg)
            clear hc hg
            by_cases hj2 : (j : Int) ≤ x
            · go_wp2_with fail
              refine (curBelow_any p 94 _ T.out.1 (by omega) (by omega)).mono ?_
              rintro e w8 ⟨y, y0, y1, rfl, hc, hg⟩
              have T := hid (T.out.step hc hg)
              clear hc hg
              have q0 : IntKind.u8.wrap (33 + y) = 33 + y := by rw [IntKind.wrap_u8]; omega
              obtain ⟨cc, hcc⟩ : ∃ c : UInt8, (c.toNat : Int) = 33 + y := ⟨UInt8.ofNat (33 + y).toNat, by rw [UInt8.toNat_ofNat_of_lt' (by show _ < 256; omega)]; omega⟩
              have cv := conv_one w8 cc (33 + y) hcc
              clear hcc
              have hsz : t.size + (⟨#[cc]⟩ : ByteArray).size ≤ 9223372036854775807 := by show t.size + 1 ≤ _; omega
              have HT := hid (show (t ++ ⟨#[cc]⟩).size ≤ 8 * k + 3 + (j + 1) by rw [size_add]; show t.size + 1 ≤ _; omega)
              have T := hid (T.out.below ((Below.refl _ _).alloc (Nat.le_refl _) (.cells #[.int .u8 (33 + y)] 5)))
              go_wp2
              go_roundw
              case rel => exact ⟨j + 1, t ++ ⟨#[cc]⟩, by omega, by go_num, rfl, HT.out, T⟩
              case measure => simp [intOf]; omega
            · go_wp2
              go_roundw
              case rel => exact ⟨k + 1, t, by omega, by go_num, rfl, by omega, T⟩
              case measure => simp [intOf]; omega
      · skip
        have ht := (show t.size ≤ 200 by omega)

        go_wp2_with fail
        clear hlt hk
        refine (curBelow_any p 12 _ T.out.1 (by omega) (by omega)).mono ?_
        rintro e w7 ⟨x, x0, x1, rfl, hc, hg⟩
        have T := hid (T.out.step hc hg)
        clear hc hg
        by_cases hx0 : x = 0
        · subst hx0
          go_wp2_with fail
          refine (curPickS_any p w7.heap.size 6 6 _ (T.out.1.alloc _) (by simp) (by have := T.out.1.lt; omega) (by omega) (by omega) (fun k hk => ?_)).mono ?_
          · rw [cell_new _ _ _ _ _ rfl]
            have : k = 0 ∨ k = 1 ∨ k = 2 ∨ k = 3 ∨ k = 4 ∨ k = 5 := by omega
            rcases this with rfl | rfl | rfl | rfl | rfl | rfl
            all_goals exact ⟨_, by decide, rfl⟩
          · rintro e w8 ⟨u, hu, rfl, hc, hg⟩
            have T := hid ((T.out.below ((Below.refl _ _).alloc (Nat.le_refl _) _)).step hc hg)
            clear hc hg
            have hsz : t.size + u.size ≤ 9223372036854775807 := by omega
            have HT := hid (show (t ++ u).size ≤ 1000000 by rw [size_add]; omega)
            go_wp2
            go_ret
            exact ⟨_, HT.out, rfl, T.out.2.1⟩
        by_cases hx1 : x = 1
        · subst hx1
          have hlt6 : (t.size : Int) < 600 := by omega
          go_wp2_with fail
          refine (curBelow_any p 2 _ T.out.1 (by omega) (by omega)).mono ?_
          rintro e w8 ⟨y, y0, y1, rfl, hc, hg⟩
          have T := hid (T.out.step hc hg)
          clear hc hg
          obtain ⟨z, rfl⟩ : ∃ z : Nat, y = (z : Int) := ⟨y.toNat, by omega⟩
          have hzz : 600 - (t.size : Int) + (z : Int) = ((600 - t.size + z : Nat) : Int) := by omega
          have LA := hid (fun W => show Calls Tryd.prog 27 #[.int .i64 (600 - (t.size : Int) + (z : Int)), .int .u8 32] W (StrLen (600 - t.size + z) (600 - t.size + z) W) by
            rw [hzz]; exact long_any (600 - t.size + z) 32 W (by omega) ⟨32, rfl⟩)
          clear hzz
          go_wp2_with fail
          refine (LA.out _).mono ?_
          rintro e w9 ⟨u, hu0, hu, rfl, hb⟩
          have T := hid (T.out.below hb)
          clear hb LA
          have hsz : t.size + u.size ≤ 9223372036854775807 := by omega
          have HT := hid (show (t ++ u).size ≤ 1000000 by rw [size_add]; omega)
          go_wp2
          go_ret
          exact ⟨_, HT.out, rfl, T.out.2.1⟩
        have b0 : (x == 0) = false := by simp [hx0]
        have b1 : (x == 1) = false := by simp [hx1]
        have HT := hid (show t.size ≤ 1000000 by omega)
        clear hx0 hx1
        go_wp2
        go_ret
        exact ⟨_, HT.out, rfl, T.out.2.1⟩
end Go.Proofs.YtmngmmjimkdcfaaDoor

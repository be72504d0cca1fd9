/- What DecodeHex returns, in the program and in the reference, for every string within the limit that the law asks. No other condition. -/
import Derived.Test.YtmngmmjimkdcfaaDoorText
namespace Go.Proofs.YtmngmmjimkdcfaaDoor
open Go.ChangeShapes Go.WideShapes Go.ChangeAt Go.RowKit
set_option maxHeartbeats 1000000
set_option linter.unusedSimpArgs false
set_option linter.unusedVariables false
theorem wf_ofbyte (c : UInt8) : IntKind.u8.wrap (c.toNat : Int) = (c.toNat : Int) := by have := c.toNat_lt; rw [IntKind.wrap_u8]; omega
theorem ownB_snoc {B : Nat} {w : World} {v : Value} {l : List UInt8} {c : UInt8} {x : Int} (h : w.ownsRow B 5 1 v (l.length + 1) (bytesV l ++ [.int .u8 x])) (hx : (c.toNat : Int) = x) : OwnBytes B w v (l ++ [c]) := by
  unfold OwnBytes
  rw [bytesV_snoc, hx, List.length_append]
  exact h
theorem iDec_h1 (s : ByteArray) (w : World) (h : s.size % 2 = 1) (hm : s.size ≤ 1048576) : Calls Tryd.prog 16 #[.string s] w fun e w' => e = .returned (.tuple #[.string ⟨#[]⟩, .bool false]) ∧ Below w.heap.size w w' := by
  have h1 : ((s.size : Int) % 2 == 1) = true := by simp; omega
  clear h
  go_enter Tryd.func16, Tryd.ntmps16
  go_wp2
  go_ret2
  exact ⟨rfl, Below.refl _ _⟩
theorem iDec_h2 (s : ByteArray) (w : World) (h : s.size % 2 = 0) (h2 : s.size > 40000) (hm : s.size ≤ 1048576) : Calls Tryd.prog 16 #[.string s] w fun e w' => e = .returned (.tuple #[.string ⟨#[]⟩, .bool false]) ∧ Below w.heap.size w w' := by
  have h1 : ((s.size : Int) % 2 == 1) = false := by simp; omega
  have h3 : decide ((20000 : Int) < (s.size : Int) / 2) = true := by simp; omega
  clear h
  go_enter Tryd.func16, Tryd.ntmps16
  go_wp2
  go_ret2
  exact ⟨rfl, Below.refl _ _⟩
theorem decF_no {s : ByteArray} (h : decOk s = false) : decF s = ⟨#[]⟩ := by simp [decF, h]
theorem iDec_h3 (s : ByteArray) (w : World) (h : s.size % 2 = 0) (h2 : s.size ≤ 40000) : Calls Tryd.prog 16 #[.string s] w fun e w' => e = .returned (.tuple #[.string (decF s), .bool (decOk s)]) ∧ Below w.heap.size w w' := by
  have h1 : ((s.size : Int) % 2 == 1) = false := by simp; omega
  have h3 : decide ((20000 : Int) < (s.size : Int) / 2) = false := by simp; omega
  have HEV := hid h
  clear h
  obtain ⟨i0, hinf, hz0, hz1, hz2⟩ := info_parts infoB
  have HINF := hid (And.intro hinf (And.intro hz0 (And.intro hz1 hz2)))
  clear hinf hz0 hz1 hz2
  go_enter Tryd.func16, Tryd.ntmps16
  go_wp2_with fail
  go_loopw [4, 5, 6] (fun v hf i wr => ∃ k : Nat, k ≤ s.size ∧ i = .int .i64 k ∧ Hid (OwnBytes w.heap.size wr v (decL s (k / 2))) ∧ Below w.heap.size w wr ∧ Hid (hexUpto s k) ∧ ∃ n : Int, hf = .int .i64 n ∧ 0 ≤ n ∧ n ≤ 15 ∧ Hid (k % 2 = 1 → n = valN (byteAt s (k - 1)))) (fun _ _ i _ => s.size - (intOf i).toNat)
  case atStart => exact ⟨0, Nat.zero_le _, rfl, hid (World.ownsRow_nil _ _ _ _), Below.refl _ _, hid (fun i hi => absurd hi (by omega)), 0, rfl, by omega, by omega, hid (fun h => absurd h (by decide))⟩
  case round =>
    obtain ⟨k, hk, rfl, hown, hb, hex, n, rfl, hn0, hn1, hpr⟩ := hrel
    have S9 := hid hb
    have HOW := hown
    have hbs := hb.size
    clear hown hb h1 h3
    by_cases hlt : k < s.size
    · have hk0 : (0 : Int) ≤ (k : Int) := by omega
      have hk1 : (k : Int) < (s.size : Int) := by omega
      have BA := hid (byteAt_eq s k hlt)
      have hbl := s[k].toNat_lt
      have hc0 : (0 : Int) ≤ (s[k].toNat : Int) := by omega
      have hc1 : (s[k].toNat : Int) ≤ 255 := by omega
      by_cases hv : valN (byteAt s k) < 0
      · have NO := hid (decOk_no hlt hv)
        have hcs : (s[k].toNat : Int) < 48 ∨ (57 < (s[k].toNat : Int) ∧ (s[k].toNat : Int) < 97) ∨ 102 < (s[k].toNat : Int) := by
          rw [BA.out] at hv
          unfold valN at hv
          split at hv
          · omega
          · split at hv
            · omega
            · omega
        clear hv hbl
        rcases hcs with hc | ⟨hc, hc'⟩ | hc
        all_goals
          go_wp2
          go_ret2
          exact ⟨by rw [NO.out, decF_no NO.out]; rfl, S9.out⟩
      · have HX := hid (hexUpto_succ hex.out (by omega))
        obtain ⟨d, hd⟩ : ∃ d, d = valN (byteAt s k) := ⟨_, rfl⟩
        have hcs : (48 ≤ (s[k].toNat : Int) ∧ (s[k].toNat : Int) ≤ 57 ∧ d = (s[k].toNat : Int) - 48) ∨ (97 ≤ (s[k].toNat : Int) ∧ (s[k].toNat : Int) ≤ 102 ∧ d = (s[k].toNat : Int) - 97 + 10) := by
          rw [hd]
          rw [BA.out] at hv ⊢
          unfold valN at hv ⊢
          split at hv
          · rw [if_pos (by omega)]; omega
          · split at hv
            · rw [if_neg (by omega), if_pos (by omega)]; omega
            · omega
        have D := hid hd
        clear hv hbl hd
        by_cases hpar : k % 2 = 1
        · have hp : ((k : Int) % 2 == 1) = true := by simp; omega
          have HN := hid (hpr.out hpar)
          have E := hid (show decL s ((k + 1) / 2) = decL s (k / 2) ++ [UInt8.ofNat (16 * n + d).toNat] by
            obtain ⟨j, rfl⟩ : ∃ j, k = 2 * j + 1 := ⟨k / 2, by omega⟩
            rw [show (2 * j + 1 + 1) / 2 = j + 1 by omega, show (2 * j + 1) / 2 = j by omega, decL_succ, HN.out, D.out]; rfl)
          have hd15 : 0 ≤ d ∧ d ≤ 15 := by omega
          have PB := hid (pair_byte ⟨hn0, hn1⟩ hd15)
          have C3 := hid (show (decL s (k / 2)).length + 1 ≤ maxLen by rw [decL_len]; unfold maxLen; omega)
          have C4 := hid (show ((decL s (k / 2)).length + 1) * 1 ≤ 140737488355328 by rw [decL_len]; omega)
          have q0 : IntKind.u8.wrap (16 * n + d) = 16 * n + d := by rw [IntKind.wrap_u8]; omega
          clear hpar
          rcases hcs with ⟨g1, g2, rfl⟩ | ⟨g1, g2, rfl⟩
          · go_wp2_with (at_builtin; obtain ⟨hinf, hz0, hz1, hz2⟩ := HINF.out; refine wpList_append_own _ rfl _ _ 27 rfl w.heap.size 5 i0 (.int .u8 0) 1 1 Tryd.underlying27 hinf hz0 hz1 hz2 rfl (by decide) _ _ _ rfl (HOW.out.alloc _) ⟨wr.heap.size, 0, none⟩ 1 1 [.int .u8 (16 * n + ((s[k].toNat : Int) - 48))] rfl rfl (cell_one_new wr (.int .u8 (16 * n + ((s[k].toNat : Int) - 48))) 5) (by simp [Value.oneCell']) C3.out C4.out (by simp; omega) ?_)
            intro v' w' hown' hgrow _
            have O9 := hid hown'
            have B9 := hid ((S9.out.alloc hbs (.cells #[.int .u8 (16 * n + ((s[k].toNat : Int) - 48))] 5)).grown hgrow (by simp; omega) (fun g hg => (HOW.out.lt g hg).1))
            clear hown' hgrow
            go_wp2
            go_roundw
            case rel => exact ⟨k + 1, by omega, by go_num, hid (by rw [E.out]; exact ownB_snoc O9.out PB.out), B9.out, HX, _, rfl, by omega, by omega, hid (fun _ => D.out)⟩
            case measure => simp [intOf]; omega
          · go_wp2_with (at_builtin; obtain ⟨hinf, hz0, hz1, hz2⟩ := HINF.out; refine wpList_append_own _ rfl _ _ 27 rfl w.heap.size 5 i0 (.int .u8 0) 1 1 Tryd.underlying27 hinf hz0 hz1 hz2 rfl (by decide) _ _ _ rfl (HOW.out.alloc _) ⟨wr.heap.size, 0, none⟩ 1 1 [.int .u8 (16 * n + ((s[k].toNat : Int) - 97 + 10))] rfl rfl (cell_one_new wr (.int .u8 (16 * n + ((s[k].toNat : Int) - 97 + 10))) 5) (by simp [Value.oneCell']) C3.out C4.out (by simp; omega) ?_)
            intro v' w' hown' hgrow _
            have O9 := hid hown'
            have B9 := hid ((S9.out.alloc hbs (.cells #[.int .u8 (16 * n + ((s[k].toNat : Int) - 97 + 10))] 5)).grown hgrow (by simp; omega) (fun g hg => (HOW.out.lt g hg).1))
            clear hown' hgrow
            go_wp2
            go_roundw
            case rel => exact ⟨k + 1, by omega, by go_num, hid (by rw [E.out]; exact ownB_snoc O9.out PB.out), B9.out, HX, _, rfl, by omega, by omega, hid (fun _ => D.out)⟩
            case measure => simp [intOf]; omega
        · have hp : ((k : Int) % 2 == 1) = false := by simp; omega
          have E := hid (show decL s ((k + 1) / 2) = decL s (k / 2) by rw [show (k + 1) / 2 = k / 2 by omega])
          clear hpar
          rcases hcs with ⟨g1, g2, rfl⟩ | ⟨g1, g2, rfl⟩
          all_goals
            go_wp2
            go_roundw
            case rel => exact ⟨k + 1, by omega, by go_num, hid (by rw [E.out]; exact HOW.out), S9.out, HX, _, rfl, by omega, by omega, hid (fun _ => D.out)⟩
            case measure => simp [intOf]; omega
    · have he : k = s.size := by omega
      subst he
      have OKS := hid (show decOk s = true by simp [decOk, HEV.out, h2, hex.out])
      have CV := hid (conv_own HOW.out)
      obtain ⟨A9, c9, hv9⟩ := ownB_form HOW.out
      subst hv9
      have cv := CV.out
      clear CV
      go_wp2
      go_ret2
      exact ⟨by rw [OKS.out, decF, if_pos OKS.out]; rfl, S9.out⟩
theorem iDec_any (s : ByteArray) (w : World) (hm : s.size ≤ 1048576) : Calls Tryd.prog 16 #[.string s] w fun e w' => e = .returned (.tuple #[.string (decF s), .bool (decOk s)]) ∧ Below w.heap.size w w' := by
  by_cases h : s.size % 2 = 1
  · have ho : decOk s = false := by simp [decOk, h]
    rw [ho, decF_no ho]
    exact iDec_h1 s w h hm
  by_cases h2 : s.size ≤ 40000
  · exact iDec_h3 s w (by omega) h2
  · have ho : decOk s = false := by simp [decOk, h2]
    rw [ho, decF_no ho]
    exact iDec_h2 s w (by omega) (by omega) hm
end Go.Proofs.YtmngmmjimkdcfaaDoor

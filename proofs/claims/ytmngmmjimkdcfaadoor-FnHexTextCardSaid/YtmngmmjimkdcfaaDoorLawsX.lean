/- The walk of the law FnHexText: it returns true whatever bytes it draws from. Condition: the library's table of powers of ten lies as it is laid at the start. -/
import Derived.Test.YtmngmmjimkdcfaaDoorItoa
import Derived.Test.YtmngmmjimkdcfaaDoorTextd
import Derived.Test.YtmngmmjimkdcfaaDoorDrawT
namespace Go.Proofs.YtmngmmjimkdcfaaDoor
open Go.ChangeShapes Go.WideShapes Go.ChangeAt Go.RowKit
set_option maxHeartbeats 1000000
set_option linter.unusedSimpArgs false
set_option linter.unusedVariables false
def encS (s : ByteArray) : ByteArray := ⟨(encL s.data.toList).toArray⟩
theorem len_data (s : ByteArray) : s.data.toList.length = s.size := Array.length_toList
theorem encS_size (s : ByteArray) : (encS s).size = 2 * s.size := by
  show (encL s.data.toList).toArray.size = _
  rw [List.size_toArray, encL_len, len_data]
theorem encL_get (l : List UInt8) : ∀ (j : Nat) (c : UInt8), l[j]? = some c → (encL l)[2 * j]? = some (figN (c.toNat / 16)) ∧ (encL l)[2 * j + 1]? = some (figN (c.toNat % 16)) := by
  induction l with
  | nil => intro j c h; simp at h
  | cons a t ih =>
    intro j c h
    have e : encL (a :: t) = figN (a.toNat / 16) :: figN (a.toNat % 16) :: encL t := rfl
    cases j with
    | zero => simp at h; subst h; rw [e]; simp
    | succ j =>
      have := ih j c (by simpa using h)
      rw [e, show 2 * (j + 1) = 2 * j + 1 + 1 by omega]
      simpa using this
theorem byteAt_enc (s : ByteArray) (j : Nat) (h : j < s.size) : byteAt (encS s) (2 * j) = figN ((byteAt s j).toNat / 16) ∧ byteAt (encS s) (2 * j + 1) = figN ((byteAt s j).toNat % 16) := by
  have hj : s.data.toList[j]? = some (byteAt s j) := by
    have h' : j < s.data.toList.length := by rw [len_data]; exact h
    rw [List.getElem?_eq_getElem h']
    unfold byteAt
    rw [List.getD_eq_getElem?_getD, List.getElem?_eq_getElem h']; rfl
  obtain ⟨h1, h2⟩ := encL_get s.data.toList j _ hj
  constructor
  · show (encL s.data.toList).toArray.toList.getD (2 * j) 0 = _
    rw [List.getD_eq_getElem?_getD]; simp only [List.toList_toArray]; rw [h1]; rfl
  · show (encL s.data.toList).toArray.toList.getD (2 * j + 1) 0 = _
    rw [List.getD_eq_getElem?_getD]; simp only [List.toList_toArray]; rw [h2]; rfl
theorem back_byte (c : UInt8) : UInt8.ofNat (16 * valN (figN (c.toNat / 16)) + valN (figN (c.toNat % 16))).toNat = c := by
  have := c.toNat_lt
  rw [valN_fig _ (by omega), valN_fig _ (by omega)]
  apply UInt8.toNat_inj.1
  rw [UInt8.toNat_ofNat_of_lt' (by show _ < 256; omega)]
  omega
theorem dec_enc (s : ByteArray) : ∀ k, k ≤ s.size → decL (encS s) k = s.data.toList.take k
  | 0, _ => rfl
  | k + 1, h => by
    obtain ⟨h1, h2⟩ := byteAt_enc s k (by omega)
    rw [decL_succ, dec_enc s k (by omega), h1, h2, back_byte, take_snoc s k (by omega)]
theorem enc_hex (s : ByteArray) : hexUpto (encS s) (encS s).size := fun i hi => by
  rw [encS_size] at hi
  rcases Nat.mod_two_eq_zero_or_one i with h | h
  · have e : i = 2 * (i / 2) := by omega
    have hb := (byteAt s (i / 2)).toNat_lt
    rw [e, (byteAt_enc s (i / 2) (by omega)).1, valN_fig _ (by omega)]; omega
  · have e : i = 2 * (i / 2) + 1 := by omega
    have hb := (byteAt s (i / 2)).toNat_lt
    rw [e, (byteAt_enc s (i / 2) (by omega)).2, valN_fig _ (by omega)]; omega
theorem enc_ok (s : ByteArray) (h : s.size ≤ 20000) : decOk (encS s) = true := by
  have a : (encS s).size % 2 = 0 := by rw [encS_size]; omega
  have b : (encS s).size ≤ 40000 := by rw [encS_size]; omega
  have c := enc_hex s
  simp [decOk, a, b, c]
theorem enc_back (s : ByteArray) (h : s.size ≤ 20000) : decF (encS s) = s := by
  unfold decF
  rw [if_pos (enc_ok s h), encS_size, show 2 * s.size / 2 = s.size by omega, dec_enc s s.size (Nat.le_refl _), List.take_of_length_le (by rw [len_data]; exact Nat.le_refl _)]
theorem FnHexText_walk (w : World) (htab : Tab w) (A : Option Addr) (n c : Nat) (hb : LoBytes w A n) (hn : n ≤ maxLen) : Calls Tryd.prog 6 #[.slice A n c] w fun e w' => e = .returned (.bool true) ∧ Below w.heap.size w w' := by
  have LB := hid hb
  have HT := hid htab
  clear hb htab
  by_cases hbig : 1048576 < n
  · have hd : decide (1048576 < n) = true := by simpa using hbig
    have BG := hid (big_any A n c w hn)
    rw [hd] at BG
    go_enter Tryd.func6, Tryd.ntmps6
    go_wp2_with fail
    refine BG.out.mono ?_
    rintro e w' ⟨rfl, rfl⟩
    go_wp2
    go_ret
    exact ⟨rfl, Below.refl _ _⟩
  · have hd : decide (1048576 < n) = false := by simpa using hbig
    have BG := hid (big_any A n c w hn)
    rw [hd] at BG
    clear hd
    go_enter Tryd.func6, Tryd.ntmps6
    go_wp2_with fail
    refine BG.out.mono ?_
    rintro e w' ⟨rfl, rfl⟩
    go_wp2_with fail
    refine (drawEnc_any A n c _ LB.out (by omega)).mono ?_
    rintro e w1 ⟨s, hs, rfl, hb1⟩
    have B1 := hid hb1
    have T1 := hid (HT.out.below hb1)
    clear hb1 BG
    by_cases hl : 20000 < s.size
    · go_wp2_with fail
      refine (iEnc_no s _ hl (by omega)).mono ?_
      rintro e w2 ⟨rfl, hb⟩
      have B2 := hid (then_ B1.out hb B1.out.size)
      have T2 := hid (T1.out.below hb)
      have FT := hid (iFmt_any 10 w2 (WalkArith.wf_i64 ⟨by omega, by omega⟩) T2.out)
      have e10 : itoaS 10 = ⟨#[49, 48]⟩ := by
        unfold itoaS Lib.itoa
        rw [if_neg (by omega)]
        show (⟨(Lib.decDigits 10).toArray⟩ : ByteArray) = _
        rw [Lib.decDigits_two (by omega) (by omega)]; rfl
      rw [e10] at FT
      clear hb e10
      go_wp2_with fail
      refine FT.out.mono ?_
      rintro e w3 ⟨rfl, hb⟩
      have B3 := hid (then_ B2.out hb B2.out.size)
      clear hb
      go_wp2
      go_ret
      exact ⟨rfl, B3.out⟩
    · have IE := hid (fun W => show Calls Tryd.prog 15 #[.string s] W fun e w' => e = .returned (.tuple #[.string (encS s), .bool true]) ∧ Below W.heap.size W w' from iEnc_yes s W (by omega))
      have ID := hid (fun W => iDec_any (encS s) W (by rw [encS_size]; omega))
      rw [enc_back s (by omega), enc_ok s (by omega)] at ID
      have hsz := encS_size s
      generalize encS s = t at IE ID hsz
      have hsz1 : (t.size : Int) = 2 * (s.size : Int) := by omega
      clear hsz
      go_wp2_with fail
      refine (IE.out _).mono ?_
      rintro e w2 ⟨rfl, hb⟩
      have B2 := hid (then_ B1.out hb B1.out.size)
      clear hb
      go_wp2_with fail
      refine (ID.out _).mono ?_
      rintro e w3 ⟨rfl, hb⟩
      have B3 := hid (then_ B2.out hb B2.out.size)
      clear hb
      go_wp2
      go_ret
      exact ⟨rfl, B3.out⟩
end Go.Proofs.YtmngmmjimkdcfaaDoor

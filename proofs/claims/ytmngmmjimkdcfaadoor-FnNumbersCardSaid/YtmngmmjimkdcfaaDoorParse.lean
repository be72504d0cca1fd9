/- What ParseUint returns, in the program and in the reference, for every string within the limit that the law asks. Condition for the program's: the library's table of powers of ten lies as it is laid at the start. -/
import Derived.Test.YtmngmmjimkdcfaaDoorItoa
namespace Go.Proofs.YtmngmmjimkdcfaaDoor
open Go.ChangeShapes Go.WideShapes Go.ChangeAt Go.RowKit
set_option maxHeartbeats 1000000
set_option linter.unusedSimpArgs false
set_option linter.unusedVariables false
def figUpto (s : ByteArray) (k : Nat) : Prop := ∀ i, i < k → 48 ≤ (byteAt s i).toNat ∧ (byteAt s i).toNat ≤ 57
instance (s : ByteArray) (k : Nat) : Decidable (figUpto s k) := by unfold figUpto; infer_instance
theorem figUpto_succ {s : ByteArray} {k : Nat} (h : figUpto s k) (hk : 48 ≤ (byteAt s k).toNat ∧ (byteAt s k).toNat ≤ 57) : figUpto s (k + 1) := fun i hi => by
  by_cases e : i = k
  · rw [e]; exact hk
  · exact h i (by omega)
def numU (s : ByteArray) : Nat → Nat
  | 0 => 0
  | k + 1 => 10 * numU s k + ((byteAt s k).toNat - 48)
theorem numU_lt (s : ByteArray) (k : Nat) (h : figUpto s k) : numU s k < 10 ^ k := by
  induction k with
  | zero => simp [numU]
  | succ k ih =>
    have h1 := ih fun i hi => h i (by omega)
    have h2 := h k (by omega)
    rw [numU, Nat.pow_succ]
    omega
def parseOk (s : ByteArray) : Bool := decide (s.size ≤ 10) && (decide (figUpto s s.size) && (decide (numU s s.size ≤ 1000000000) && decide (itoaS (numU s s.size : Int) = s)))
def parseF (s : ByteArray) : Int := if parseOk s = true then (numU s s.size : Int) else 0
def ParseRes (s : ByteArray) (w : World) (e : Ending) (w' : World) : Prop := e = .returned (.tuple #[.int .i64 (parseF s), .bool (parseOk s)]) ∧ Below w.heap.size w w'
theorem parse_no {s : ByteArray} {w w' : World} (h : parseOk s = false) (hb : Below w.heap.size w w') : ParseRes s w (.returned (.tuple #[.int .i64 0, .bool false])) w' :=
  ⟨by rw [h, parseF, h]; rfl, hb⟩
theorem parse_yes {s : ByteArray} {w w' : World} (h : parseOk s = true) (hb : Below w.heap.size w w') : ParseRes s w (.returned (.tuple #[.int .i64 (numU s s.size : Int), .bool true])) w' :=
  ⟨by rw [h, parseF, if_pos h], hb⟩
theorem parseOk_fig {s : ByteArray} {k : Nat} (hk : k < s.size) (h : ¬ (48 ≤ (byteAt s k).toNat ∧ (byteAt s k).toNat ≤ 57)) : parseOk s = false := by
  have : ¬ figUpto s s.size := fun hh => h (hh k hk)
  simp [parseOk, this]
theorem itoa_ne (n : Int) : Lib.itoa n ≠ [] := by
  unfold Lib.itoa
  have : ∀ u, Lib.decDigits u ≠ [] := fun u => by
    rw [Lib.decDigits]; split <;> simp
  split
  · simp
  · exact this _
theorem str_ne {t s : ByteArray} (h : ¬ t = s) : (t.toList == s.toList) = false := by
  rw [ByteArray.toList_eq, ByteArray.toList_eq, beq_eq_false_iff_ne]
  intro e
  exact h (ByteArray.ext (Array.toList_inj.1 e))
theorem sParse_any (s : ByteArray) (w : World) (hm : s.size ≤ 1048576) : Calls Tryd.prog 10 #[.string s] w (ParseRes s w) := by
  by_cases hl : 10 < s.size
  · have NO := hid (show parseOk s = false by have : ¬ s.size ≤ 10 := by omega
                                              simp [parseOk, this])
    go_enter Tryd.func10, Tryd.ntmps10
    go_wp2
    go_ret2
    exact parse_no NO.out (Below.refl _ _)
  go_enter Tryd.func10, Tryd.ntmps10
  go_wp2_with fail
  go_loop [4, 5] (fun v i => ∃ k : Nat, k ≤ s.size ∧ i = .int .i64 k ∧ v = .int .i64 (numU s k : Int) ∧ Hid (figUpto s k)) (fun _ i => s.size - (intOf i).toNat)
  case atStart => exact ⟨0, Nat.zero_le _, rfl, rfl, hid (fun i hi => absurd hi (by omega))⟩
  case round =>
    obtain ⟨k, hk, rfl, rfl, hf⟩ := hrel
    have hnl := numU_lt s k hf.out
    have hn10 : numU s k < 10 ^ 10 := Nat.lt_of_lt_of_le hnl (Nat.pow_le_pow_right (by omega) (by omega))
    clear hnl
    by_cases hlt : k < s.size
    · have hk0 : (0 : Int) ≤ (k : Int) := by omega
      have hk1 : (k : Int) < (s.size : Int) := by omega
      have BA := hid (byteAt_eq s k hlt)
      have hbl := s[k].toNat_lt
      by_cases hfg : 48 ≤ s[k].toNat ∧ s[k].toNat ≤ 57
      · have OK := hid (figUpto_succ hf.out (by rw [BA.out]; exact hfg))
        have E := hid (show ((numU s (k + 1) : Nat) : Int) = 10 * (numU s k : Int) + (s[k].toNat : Int) - 48 by rw [numU, BA.out]; omega)
        obtain ⟨h1, h2⟩ := hfg
        have h1' : (48 : Int) ≤ (s[k].toNat : Int) := by omega
        have h2' : (s[k].toNat : Int) ≤ 57 := by omega
        generalize numU s k = v at E hn10
        have hv0 : (0 : Int) ≤ (v : Int) := by omega
        have hv1 : (v : Int) ≤ 10000000000 := by omega
        clear hn10
        go_wp2
        go_round
        case rel => exact ⟨k + 1, by omega, by go_num, by rw [E.out], OK⟩
        case measure => simp [intOf]; omega
      · have NO := hid (parseOk_fig hlt (by rw [BA.out]; exact hfg))
        have hcs : (s[k].toNat : Int) < 48 ∨ (48 ≤ (s[k].toNat : Int) ∧ 57 < (s[k].toNat : Int)) := by omega
        clear hfg
        rcases hcs with hc | ⟨hc, hc'⟩
        all_goals
          go_wp2
          go_ret2
          exact parse_no NO.out (Below.refl _ _)
    · have he : k = s.size := by omega
      subst he
      have HF := hid hf.out
      by_cases hbig : 1000000000 < numU s s.size
      · have NO := hid (show parseOk s = false by have : ¬ numU s s.size ≤ 1000000000 := by omega
                                                  simp [parseOk, this])
        generalize numU s s.size = v at hbig hn10
        go_wp2
        go_ret2
        exact parse_no NO.out (Below.refl _ _)
      · have FM := hid (fun W => sFmt_any (numU s s.size : Int) W (WalkArith.wf_i64 ⟨by omega, by omega⟩))
        by_cases heq : itoaS (numU s s.size : Int) = s
        · have YES := hid (show parseOk s = true by
            have a : s.size ≤ 10 := by omega
            have b : numU s s.size ≤ 1000000000 := by omega
            simp [parseOk, HF.out, a, b, heq])
          rw [heq] at FM
          obtain ⟨v, hv⟩ : ∃ v, v = numU s s.size := ⟨_, rfl⟩
          have HV := hid hv
          rw [← hv] at FM hbig ⊢
          clear hv heq hn10
          have hb2 : (v : Int) ≤ 1000000000 := by omega
          go_wp2_with fail
          refine (FM.out _).mono ?_
          rintro e w1 ⟨rfl, hb⟩
          have B := hid hb
          clear hb
          go_wp2
          go_ret2
          have hh := parse_yes (w := w) YES.out B.out
          rw [← HV.out] at hh
          exact hh
        · have NO := hid (show parseOk s = false by simp [parseOk, heq])
          have hts := str_ne heq
          generalize itoaS (numU s s.size : Int) = t at FM hts
          generalize numU s s.size = v at FM hbig hn10
          have hb2 : (v : Int) ≤ 1000000000 := by omega
          clear heq
          go_wp2_with fail
          refine (FM.out _).mono ?_
          rintro e w1 ⟨rfl, hb⟩
          have B := hid hb
          clear hb
          go_wp2
          go_ret2
          exact parse_no NO.out B.out
theorem iParse_any (s : ByteArray) (w : World) (hm : s.size ≤ 1048576) (htab : Tab w) : Calls Tryd.prog 11 #[.string s] w (ParseRes s w) := by
  have HT := hid htab
  clear htab
  by_cases hz : s.size = 0
  · have NO := hid (show parseOk s = false by
      have e : s = ⟨#[]⟩ := by
        apply ByteArray.ext
        exact Array.eq_empty_of_size_eq_zero hz
      subst e
      have : ¬ itoaS 0 = ⟨#[]⟩ := fun h => by
        have h2 := congrArg (fun b : ByteArray => b.data.toList) h
        exact itoa_ne 0 (by simpa [itoaS] using h2)
      simp only [parseOk, Bool.and_eq_false_iff, decide_eq_false_iff_not]
      exact .inr (.inr (.inr this)))
    have hz1 : (s.size : Int) < 1 := by omega
    go_enter Tryd.func11, Tryd.ntmps11
    go_wp2
    go_ret2
    exact parse_no NO.out (Below.refl _ _)
  have hz1 : (1 : Int) ≤ (s.size : Int) := by omega
  by_cases hl : 10 < s.size
  · have NO := hid (show parseOk s = false by have : ¬ s.size ≤ 10 := by omega
                                              simp [parseOk, this])
    go_enter Tryd.func11, Tryd.ntmps11
    go_wp2
    go_ret2
    exact parse_no NO.out (Below.refl _ _)
  go_enter Tryd.func11, Tryd.ntmps11
  go_wp2_with fail
  go_loop [4, 5] (fun v i => ∃ k : Nat, k ≤ s.size ∧ i = .int .i64 k ∧ v = .int .i64 (numU s k : Int) ∧ Hid (figUpto s k)) (fun _ i => s.size - (intOf i).toNat)
  case atStart => exact ⟨0, Nat.zero_le _, rfl, rfl, hid (fun i hi => absurd hi (by omega))⟩
  case round =>
    obtain ⟨k, hk, rfl, rfl, hf⟩ := hrel
    have hnl := numU_lt s k hf.out
    have hn10 : numU s k < 10 ^ 10 := Nat.lt_of_lt_of_le hnl (Nat.pow_le_pow_right (by omega) (by omega))
    clear hnl
    by_cases hlt : k < s.size
    · have hk0 : (0 : Int) ≤ (k : Int) := by omega
      have hk1 : (k : Int) < (s.size : Int) := by omega
      have BA := hid (byteAt_eq s k hlt)
      have hbl := s[k].toNat_lt
      by_cases hfg : 48 ≤ s[k].toNat ∧ s[k].toNat ≤ 57
      · have OK := hid (figUpto_succ hf.out (by rw [BA.out]; exact hfg))
        have E := hid (show ((numU s (k + 1) : Nat) : Int) = 10 * (numU s k : Int) + ((s[k].toNat : Int) - 48) by rw [numU, BA.out]; omega)
        obtain ⟨h1, h2⟩ := hfg
        have h1' : (48 : Int) ≤ (s[k].toNat : Int) := by omega
        have h2' : (s[k].toNat : Int) ≤ 57 := by omega
        generalize numU s k = v at E hn10
        have hv0 : (0 : Int) ≤ (v : Int) := by omega
        have hv1 : (v : Int) ≤ 10000000000 := by omega
        clear hn10
        go_wp2
        go_round
        case rel => exact ⟨k + 1, by omega, by go_num, by rw [E.out], OK⟩
        case measure => simp [intOf]; omega
      · have NO := hid (parseOk_fig hlt (by rw [BA.out]; exact hfg))
        have hcs : (s[k].toNat : Int) < 48 ∨ (48 ≤ (s[k].toNat : Int) ∧ 57 < (s[k].toNat : Int)) := by omega
        clear hfg
        rcases hcs with hc | ⟨hc, hc'⟩
        all_goals
          go_wp2
          go_ret2
          exact parse_no NO.out (Below.refl _ _)
    · have he : k = s.size := by omega
      subst he
      have HF := hid hf.out
      by_cases hbig : 1000000000 < numU s s.size
      · have NO := hid (show parseOk s = false by have : ¬ numU s s.size ≤ 1000000000 := by omega
                                                  simp [parseOk, this])
        generalize numU s s.size = v at hbig hn10
        go_wp2
        go_ret2
        exact parse_no NO.out (Below.refl _ _)
      · have FM := hid (iFmt_any (numU s s.size : Int) w (WalkArith.wf_i64 ⟨by omega, by omega⟩) HT.out)
        by_cases heq : itoaS (numU s s.size : Int) = s
        · have YES := hid (show parseOk s = true by
            have a : s.size ≤ 10 := by omega
            have b : numU s s.size ≤ 1000000000 := by omega
            simp [parseOk, HF.out, a, b, heq])
          rw [heq] at FM
          obtain ⟨v, hv⟩ : ∃ v, v = numU s s.size := ⟨_, rfl⟩
          have HV := hid hv
          rw [← hv] at FM hbig ⊢
          clear hv heq hn10
          have hb2 : (v : Int) ≤ 1000000000 := by omega
          go_wp2_with fail
          refine FM.out.mono ?_
          rintro e w1 ⟨rfl, hb⟩
          have B := hid hb
          clear hb
          go_wp2
          go_ret2
          have hh := parse_yes (w := w) YES.out B.out
          rw [← HV.out] at hh
          exact hh
        · have NO := hid (show parseOk s = false by simp [parseOk, heq])
          have hts := str_ne heq
          generalize itoaS (numU s s.size : Int) = t at FM hts
          generalize numU s s.size = v at FM hbig hn10
          have hb2 : (v : Int) ≤ 1000000000 := by omega
          clear heq
          go_wp2_with fail
          refine FM.out.mono ?_
          rintro e w1 ⟨rfl, hb⟩
          have B := hid hb
          clear hb
          go_wp2
          go_ret2
          exact parse_no NO.out B.out
end Go.Proofs.YtmngmmjimkdcfaaDoor

/- What the reference's FormatInt returns: the decimal numeral, for every int. No condition but that the number is an int64. -/
import Derived.Lib.ItoaNum
import Derived.Test.YtmngmmjimkdcfaaDoorMarkT
import Derived.Test.YtmngmmjimkdcfaaDoorCurN
import Derived.Test.YtmngmmjimkdcfaaDoorPure
namespace Go.Proofs.YtmngmmjimkdcfaaDoor
open Go.ChangeShapes Go.WideShapes Go.ChangeAt Go.RowKit
set_option maxHeartbeats 1000000
set_option linter.unusedSimpArgs false
set_option linter.unusedVariables false
def itoaS (n : Int) : ByteArray := ⟨(Lib.itoa n).toArray⟩
theorem digW_dec (u : Nat) : ∀ acc, 0 < u → digW u acc = Lib.decDigits u ++ acc := by
  induction u using Nat.strongRecOn with
  | _ u ih =>
    intro acc h
    rw [digW_step u h, Lib.decDigits]
    by_cases h10 : u < 10
    · rw [dif_pos h10, show u / 10 = 0 by omega, digW_zero, show u % 10 = u by omega]; rfl
    · rw [dif_neg h10, ih (u / 10) (by omega) _ (by omega), List.append_assoc]; rfl
theorem figN_dig (n : Nat) : figN (n % 10) = UInt8.ofNat (48 + n % 10) := by unfold figN; rw [if_pos (by omega)]
theorem tdiv_neg10 (n : Nat) : (-(n : Int)).tdiv 10 = -((n / 10 : Nat) : Int) := by rw [Int.neg_tdiv, Int.tdiv_eq_ediv_of_nonneg (by omega)]; rfl
theorem tmod_neg10 (n : Nat) : (-(n : Int)).tmod 10 = -((n % 10 : Nat) : Int) := by rw [Int.neg_tmod, Int.tmod_eq_emod_of_nonneg (by omega)]; rfl
theorem sFmt_zero (w : World) : Calls Tryd.prog 8 #[.int .i64 0] w fun e w' => e = .returned (.string (itoaS 0)) ∧ Below w.heap.size w w' := by
  have E := hid (show itoaS 0 = ⟨#[48]⟩ by unfold itoaS Lib.itoa; rw [if_neg (by omega)]; show (⟨(Lib.decDigits 0).toArray⟩ : ByteArray) = _; rw [Lib.decDigits_one (by omega)]; rfl)
  go_enter Tryd.func8, Tryd.ntmps8
  go_wp2
  go_ret
  exact ⟨ret_val (by rw [E.out]; rfl), Below.refl _ _⟩
theorem sFmt_pos (m : Nat) (w : World) (h0 : 0 < m) (h1 : m ≤ 9223372036854775807) : Calls Tryd.prog 8 #[.int .i64 (m : Int)] w fun e w' => e = .returned (.string (itoaS (m : Int))) ∧ Below w.heap.size w w' := by
  have E0 := hid (show itoaS (m : Int) = ⟨(digW m []).toArray⟩ by unfold itoaS Lib.itoa; rw [if_neg (by omega), digW_dec m [] h0, List.append_nil]; rfl)
  have hne : ((m : Int) == 0) = false := by simp; omega
  have hng : ¬ (m : Int) < 0 := by omega
  go_enter Tryd.func8, Tryd.ntmps8
  go_wp2_with fail
  go_loopw [0, 4] (fun i o wr => ∃ (n : Nat) (l : List UInt8), i = .int .i64 (n : Int) ∧ o = .string ⟨l.toArray⟩ ∧ l.length ≤ m ∧ l.length + n ≤ m ∧ Hid (digW m [] = digW n l) ∧ Below w.heap.size w wr) (fun i _ _ => (intOf i).toNat)
  case atStart => exact ⟨m, [], rfl, rfl, by simp, by simp, hid rfl, Below.refl _ _⟩
  case round =>
    obtain ⟨n, l, rfl, rfl, hl0, hl, hd, hb⟩ := hrel
    have S9 := hid hb
    have hbs := hb.size
    clear hb hne hng
    by_cases hn : 0 < n
    · have hn0 : (0 : Int) < (n : Int) := by omega
      have hn1 : (n : Int) ≤ 9223372036854775807 := by omega
      have hz : ((n : Int) != 0) = true := by simp; omega
      have cv := conv_one wr (figN (n % 10)) ((figN (n % 10)).toNat : Int) rfl
      have E := hid (show digW m [] = digW (n / 10) (figN (n % 10) :: l) by rw [hd.out, digW_step n hn, figN_dig])
      have CB := hid (cons_bytes (figN (n % 10)) l)
      have hdv := Nat.div_lt_self hn (show 1 < 10 by omega)
      have LE := hid (show (figN (n % 10) :: l).length ≤ m ∧ (figN (n % 10) :: l).length + n / 10 ≤ m by simp; omega)
      have FG := hid (fun W => show Calls Tryd.prog 21 #[.int .i64 ((n : Int) % 10)] W fun e w' => e = .returned (.int .u8 ((figN (n % 10)).toNat : Int)) ∧ W = w' by
        have := figS_any (n % 10) W (by omega)
        rwa [show ((n % 10 : Nat) : Int) = (n : Int) % 10 by omega] at this)
      have B9 := hid (S9.out.alloc hbs (.cells #[.int .u8 ((figN (n % 10)).toNat : Int)] 5))
      generalize figN (n % 10) = c at cv E CB LE FG B9
      have hsz : (⟨#[c]⟩ : ByteArray).size + (⟨l.toArray⟩ : ByteArray).size ≤ 9223372036854775807 := by
        show 1 + l.toArray.size ≤ _; simp; omega
      clear hdv
      go_wp2_with fail
      refine (FG.out _).mono ?_
      rintro e w1 ⟨rfl, rfl⟩
      go_wp2
      go_roundw
      case rel => exact ⟨n / 10, c :: l, by simp, congrArg Value.string CB.out, LE.out.1, LE.out.2, E, B9.out⟩
      case measure => simp [intOf]; omega
    · have hz : n = 0 := by omega
      subst hz
      have hz1 : (((0 : Nat) : Int) != 0) = false := rfl
      have E := hid (show itoaS (m : Int) = ⟨l.toArray⟩ by rw [E0.out, hd.out, digW_zero])
      go_wp2
      go_ret
      exact ⟨ret_val (by rw [E.out]; rfl), S9.out⟩
theorem sFmt_neg (m : Nat) (w : World) (h0 : 0 < m) (h1 : m ≤ 9223372036854775808) : Calls Tryd.prog 8 #[.int .i64 (-(m : Int))] w fun e w' => e = .returned (.string (itoaS (-(m : Int)))) ∧ Below w.heap.size w w' := by
  have E0 := hid (show itoaS (-(m : Int)) = ⟨(45 :: digW m []).toArray⟩ by unfold itoaS Lib.itoa; rw [if_pos (by omega), digW_dec m [] h0, List.append_nil, Int.natAbs_neg, Int.natAbs_natCast])
  have hne : (-(m : Int) == 0) = false := by simp; omega
  have hng : -(m : Int) < 0 := by omega
  go_enter Tryd.func8, Tryd.ntmps8
  go_wp2_with fail
  go_loopw [0, 4] (fun i o wr => ∃ (n : Nat) (l : List UInt8), i = .int .i64 (-(n : Int)) ∧ o = .string ⟨l.toArray⟩ ∧ n ≤ m ∧ ((n = 0 ∧ 2 * l.length ≤ m + 3) ∨ (0 < n ∧ 2 * l.length + n ≤ m + 2)) ∧ Hid (digW m [] = digW n l) ∧ Below w.heap.size w wr) (fun i _ _ => (-(intOf i)).toNat)
  case atStart => exact ⟨m, [], rfl, rfl, Nat.le_refl _, .inr ⟨h0, by simp⟩, hid rfl, Below.refl _ _⟩
  case round =>
    obtain ⟨n, l, rfl, rfl, hnm, hl, hd, hb⟩ := hrel
    have S9 := hid hb
    have hbs := hb.size
    clear hb hne hng
    by_cases hn : 0 < n
    · have hn0 : -(n : Int) < 0 := by omega
      have hn1 : -9223372036854775808 ≤ -(n : Int) := by omega
      have hz : (-(n : Int) != 0) = true := by simp; omega
      have cv := conv_one wr (figN (n % 10)) ((figN (n % 10)).toNat : Int) rfl
      have E := hid (show digW m [] = digW (n / 10) (figN (n % 10) :: l) by rw [hd.out, digW_step n hn, figN_dig])
      have CB := hid (cons_bytes (figN (n % 10)) l)
      have hdv := Nat.div_lt_self hn (show 1 < 10 by omega)
      have LE := hid (show (n / 10 = 0 ∧ 2 * (figN (n % 10) :: l).length ≤ m + 3) ∨ (0 < n / 10 ∧ 2 * (figN (n % 10) :: l).length + n / 10 ≤ m + 2) by simp only [List.length_cons]; omega)
      have FG := hid (fun W => figS_any (n % 10) W (by omega))
      have B9 := hid (S9.out.alloc hbs (.cells #[.int .u8 ((figN (n % 10)).toNat : Int)] 5))
      generalize figN (n % 10) = c at cv E CB LE FG B9
      have hsz : (⟨#[c]⟩ : ByteArray).size + (⟨l.toArray⟩ : ByteArray).size ≤ 9223372036854775807 := by
        show 1 + l.toArray.size ≤ _; simp; omega
      have q1 : (-(n : Int)).tmod 10 = -((n % 10 : Nat) : Int) := tmod_neg10 n
      have q2 : (-(n : Int)).tdiv 10 = -((n / 10 : Nat) : Int) := tdiv_neg10 n
      have r1 : n % 10 < 10 := by omega
      have r2 : n / 10 < n := hdv
      have r3 : n / 10 = n / 10 := rfl
      obtain ⟨x, hx⟩ : ∃ x, x = n % 10 := ⟨_, rfl⟩
      obtain ⟨y, hy⟩ : ∃ y, y = n / 10 := ⟨_, rfl⟩
      rw [← hx] at q1 r1 FG
      rw [← hy] at q2 r2 E LE
      clear hdv hx hy r3
      have r4 : (x : Int) ≤ 9 := by omega
      have r5 : (y : Int) ≤ 9223372036854775807 := by omega
      have r6 : (0 : Int) ≤ (x : Int) := by omega
      have r7 : (0 : Int) ≤ (y : Int) := by omega
      have hin : (x = 0 ∧ ((x : Int) = 0)) ∨ 0 < x := by omega
      clear hl
      rcases hin with ⟨rfl, hx0⟩ | hx0
      all_goals
        go_wp2_with fail
        refine (FG.out _).mono ?_
        rintro e w1 ⟨rfl, rfl⟩
        go_wp2
        go_roundw
        case rel => exact ⟨y, c :: l, by simp, congrArg Value.string CB.out, by omega, LE.out, E, B9.out⟩
        case measure => simp [intOf]; omega
    · have hz : n = 0 := by omega
      subst hz
      have hz1 : (-((0 : Nat) : Int) != 0) = false := rfl
      have E := hid (show itoaS (-(m : Int)) = ⟨#[45]⟩ ++ ⟨l.toArray⟩ by rw [E0.out, hd.out, digW_zero, cons_bytes])
      have hsz : (⟨#[45]⟩ : ByteArray).size + (⟨l.toArray⟩ : ByteArray).size ≤ 9223372036854775807 := by
        show 1 + l.toArray.size ≤ _; simp; omega
      go_wp2
      go_ret
      exact ⟨ret_val (by rw [E.out]; rfl), S9.out⟩
theorem sFmt_any (n : Int) (w : World) (h : (Lit.int .i64 n).wf = true) : Calls Tryd.prog 8 #[.int .i64 n] w fun e w' => e = .returned (.string (itoaS n)) ∧ Below w.heap.size w w' := by
  simp only [Lit.wf, Bool.and_eq_true, decide_eq_true_iff] at h
  have h1 : -9223372036854775808 ≤ n := h.1
  have h2 : n ≤ 9223372036854775807 := h.2
  rcases Int.lt_trichotomy n 0 with hn | rfl | hn
  · have := sFmt_neg n.natAbs w (by omega) (by omega)
    rwa [show -(n.natAbs : Int) = n by omega] at this
  · exact sFmt_zero w
  · have := sFmt_pos n.toNat w (by omega) (by omega)
    rwa [show (n.toNat : Int) = n by omega] at this
end Go.Proofs.YtmngmmjimkdcfaaDoor

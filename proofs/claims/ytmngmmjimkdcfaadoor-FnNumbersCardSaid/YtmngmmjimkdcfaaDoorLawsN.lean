/- The walks of the laws on FormatInt and ParseUint, and of FnNumbers: each returns true. Condition: the library's table of powers of ten lies as it is laid at the start. -/
import Derived.Test.YtmngmmjimkdcfaaDoorParse
namespace Go.Proofs.YtmngmmjimkdcfaaDoor
open Go.ChangeShapes Go.WideShapes Go.ChangeAt Go.RowKit
set_option maxHeartbeats 1000000
set_option linter.unusedSimpArgs false
set_option linter.unusedVariables false
theorem FnExactFormatInt_walk (w : World) (htab : Tab w) (n : Int) (hn : (Lit.int .i64 n).wf = true) : Calls Tryd.prog 3 #[.int .i64 n] w fun e w' => e = .returned (.bool true) ∧ Below w.heap.size w w' := by
  have HT := hid htab
  have FSM := hid (fun W => sFmt_any n W hn)
  have FI := hid (fun W h => iFmt_any n W hn h)
  clear htab hn
  generalize itoaS n = t at FSM FI
  go_enter Tryd.func3, Tryd.ntmps3
  go_wp2_with fail
  refine (FSM.out _).mono ?_
  rintro e w1 ⟨rfl, hb⟩
  have B1 := hid hb
  have T1 := hid (HT.out.below hb)
  clear hb
  go_wp2_with fail
  refine (FI.out _ T1.out).mono ?_
  rintro e w2 ⟨rfl, hb⟩
  have B2 := hid (then_ B1.out hb B1.out.size)
  clear hb
  go_wp2
  go_ret
  exact ⟨rfl, B2.out⟩
theorem FnExactParseUint_walk (w : World) (htab : Tab w) (s : ByteArray) (hs : s.size ≤ maxLen) : Calls Tryd.prog 4 #[.string s] w fun e w' => e = .returned (.bool true) ∧ Below w.heap.size w w' := by
  unfold maxLen at hs
  have HT := hid htab
  clear htab
  by_cases hb : 1048576 < s.size
  · go_enter Tryd.func4, Tryd.ntmps4
    go_wp2
    go_ret
    exact ⟨rfl, Below.refl _ _⟩
  have FSM := hid (fun W => sParse_any s W (by omega))
  have FI := hid (fun W h => iParse_any s W (by omega) h)
  unfold ParseRes at FSM FI
  generalize parseF s = x at FSM FI
  generalize parseOk s = b at FSM FI
  cases b
  all_goals
    go_enter Tryd.func4, Tryd.ntmps4
    go_wp2_with fail
    refine (FSM.out _).mono ?_
    rintro e w1 ⟨rfl, hb⟩
    have B1 := hid hb
    have T1 := hid (HT.out.below hb)
    clear hb
    go_wp2_with fail
    refine (FI.out _ T1.out).mono ?_
    rintro e w2 ⟨rfl, hb⟩
    have B2 := hid (then_ B1.out hb B1.out.size)
    clear hb
    go_wp2
    go_ret
    exact ⟨rfl, B2.out⟩
/-! a number's text is read back -/
def valL (l : List UInt8) : Nat := l.foldl (fun v c => 10 * v + (c.toNat - 48)) 0
theorem valL_snoc (l : List UInt8) (c : UInt8) : valL (l ++ [c]) = 10 * valL l + (c.toNat - 48) := by simp [valL]
theorem numU_val (s : ByteArray) (k : Nat) (hk : k ≤ s.size) : numU s k = valL (s.data.toList.take k) := by
  induction k with
  | zero => rfl
  | succ k ih => rw [numU, take_snoc s k (by omega), valL_snoc, ih (by omega)]
theorem ofNat_fig (x : Nat) (h : x < 10) : (UInt8.ofNat (48 + x)).toNat = 48 + x := by
  rw [UInt8.toNat_ofNat_of_lt' (by show _ < 256; omega)]
theorem valL_dec (u : Nat) : valL (Lib.decDigits u) = u := by
  induction u using Nat.strongRecOn with
  | _ u ih =>
    rw [Lib.decDigits]
    by_cases h : u < 10
    · rw [dif_pos h]
      have := ofNat_fig u h
      show 10 * 0 + ((UInt8.ofNat (48 + u)).toNat - 48) = u
      rw [this]; omega
    · rw [dif_neg h, valL_snoc, ih (u / 10) (by omega), ofNat_fig _ (by omega)]
      omega
theorem dec_figs (u : Nat) : ∀ c ∈ Lib.decDigits u, 48 ≤ c.toNat ∧ c.toNat ≤ 57 := by
  induction u using Nat.strongRecOn with
  | _ u ih =>
    intro c hc
    rw [Lib.decDigits] at hc
    by_cases h : u < 10
    · rw [dif_pos h] at hc
      have : c = UInt8.ofNat (48 + u) := by simpa using hc
      rw [this, ofNat_fig u h]; omega
    · rw [dif_neg h] at hc
      rcases List.mem_append.1 hc with h1 | h1
      · exact ih (u / 10) (by omega) c h1
      · have : c = UInt8.ofNat (48 + u % 10) := by simpa using h1
        rw [this, ofNat_fig _ (by omega)]; omega
theorem dec_len (u : Nat) (h : u ≤ 1000000000) : (Lib.decDigits u).length ≤ 10 := by
  rw [Lib.decDigits_length]
  have hm : ∀ (k v : Nat), v < 10 ^ k → 1 ≤ k → Lib.nDigits v ≤ k := by
    intro k
    induction k with
    | zero => intro v _ h; omega
    | succ k ih =>
      intro v hv _
      by_cases h10 : v < 10
      · rw [Lib.nDigits_small h10]; omega
      · rw [Lib.nDigits_big h10]
        rcases Nat.eq_zero_or_pos k with rfl | hk
        · simp at hv; omega
        · have := ih (v / 10) (by rw [Nat.pow_succ] at hv; omega) hk
          omega
  exact hm 10 u (by omega) (by omega)
theorem itoa_size (n : Int) : (itoaS n).size = (Lib.itoa n).length := by simp [itoaS, ByteArray.size]
theorem itoa_take (n : Int) : (itoaS n).data.toList.take (itoaS n).size = Lib.itoa n := by
  rw [List.take_of_length_le (by simp [itoaS, ByteArray.size])]; simp [itoaS]
theorem num_itoa (n : Int) (h : 0 ≤ n) : (numU (itoaS n) (itoaS n).size : Int) = n := by
  rw [numU_val _ _ (Nat.le_refl _), itoa_take]
  unfold Lib.itoa
  rw [if_neg (by omega), valL_dec]; omega
theorem byteAt_itoa (n : Int) (k : Nat) : byteAt (itoaS n) k = (Lib.itoa n).getD k 0 := by simp [byteAt, itoaS]
def inR (n : Int) : Bool := decide (0 ≤ n) && decide (n ≤ 1000000000)
theorem parse_itoa (n : Int) : parseOk (itoaS n) = inR n := by
  by_cases h0 : 0 ≤ n
  · have hnum := num_itoa n h0
    by_cases h1 : n ≤ 1000000000
    · have hin : inR n = true := by simp [inR, h0, h1]
      rw [hin]
      have hit : Lib.itoa n = Lib.decDigits n.toNat := by unfold Lib.itoa; rw [if_neg (by omega)]
      have a : (itoaS n).size ≤ 10 := by rw [itoa_size, hit]; exact dec_len _ (by omega)
      have b : figUpto (itoaS n) (itoaS n).size := fun i hi => by
        rw [itoa_size] at hi
        rw [byteAt_itoa, List.getD_eq_getElem?_getD, List.getElem?_eq_getElem hi]
        rw [hit] at hi
        simp only [hit, Option.getD_some]
        exact dec_figs _ _ (List.getElem_mem hi)
      have c : numU (itoaS n) (itoaS n).size ≤ 1000000000 := by omega
      simp [parseOk, a, b, c, hnum]
    · have hin : inR n = false := by simp [inR, h1]
      rw [hin]
      have c : ¬ numU (itoaS n) (itoaS n).size ≤ 1000000000 := by omega
      simp [parseOk, c]
  · have hin : inR n = false := by simp [inR, h0]
    rw [hin]
    refine parseOk_fig (k := 0) ?_ ?_
    · rw [itoa_size]
      exact List.length_pos_iff.2 (itoa_ne n)
    · rw [byteAt_itoa]
      unfold Lib.itoa
      rw [if_pos (by omega)]
      show ¬ (48 ≤ (45 : UInt8).toNat ∧ (45 : UInt8).toNat ≤ 57)
      decide
theorem parseF_itoa (n : Int) (h : inR n = true) : parseF (itoaS n) = n := by
  have h0 : 0 ≤ n := by simp [inR] at h; omega
  rw [parseF, parse_itoa, if_pos h, num_itoa n h0]
theorem itoa_str (n : Int) : (itoaS n).toList.isEmpty = false ∧ (itoaS n).toList ≠ [] := by
  rw [ByteArray.toList_eq]
  have h : (itoaS n).data.toList ≠ [] := by simpa [itoaS] using itoa_ne n
  refine ⟨?_, h⟩
  cases e : (itoaS n).data.toList with
  | nil => exact absurd e h
  | cons _ _ => rfl
def Draw1 (w : World) (e : Ending) (w' : World) : Prop := ∃ a : Int, (Lit.int .i64 a).wf = true ∧ e = .returned (.int .i64 a) ∧ Below w.heap.size w w'
theorem drawFmt_any (A : Option Addr) (n c : Nat) (w : World) (hb : LoBytes w A n) (hn : n ≤ 1048576) : Calls Tryd.prog 13 #[.slice A n c] w (Draw1 w) := by
  have LB := hid hb
  clear hb
  go_enter Tryd.func13, Tryd.ntmps13
  go_wp2_with fail
  refine (curNew_any A n c _ LB.out hn).mono ?_
  rintro e w1 ⟨p, rfl, hp, hc, hb⟩
  have K1 := hid hc
  have B1 := hid hb
  clear hc hb
  go_wp2_with fail
  refine (curOnce_any p 3 _ K1.out (by omega) (by omega)).mono ?_
  rintro e w2 ⟨b, rfl, hc, hg⟩
  have K2 := hid hc
  have B2 := hid (B1.out.grown hg B1.out.size (fun g hg => by cases hg; exact hp))
  clear hc hg
  cases b
  · go_wp2_with fail
    refine (curNumber_any p _ K2.out).mono ?_
    rintro e w3 ⟨x, x0, x1, rfl, hc, hg⟩
    have B3 := hid (B2.out.grown hg B2.out.size (fun g hg => by cases hg; exact hp))
    have WF := hid (show (Lit.int .i64 x).wf = true from WalkArith.wf_i64 ⟨x0, x1⟩)
    clear hc hg x0 x1
    go_wp2
    go_ret
    exact ⟨x, WF.out, rfl, B3.out⟩
  · go_wp2_with fail
    refine (curBelow_any p 1000000 _ K2.out (by omega) (by omega)).mono ?_
    rintro e w3 ⟨x, x0, x1, rfl, hc, hg⟩
    have K3 := hid hc
    have B3 := hid (B2.out.grown hg B2.out.size (fun g hg => by cases hg; exact hp))
    clear hc hg
    go_wp2_with fail
    refine (curBelow_any p 2000000 _ K3.out (by omega) (by omega)).mono ?_
    rintro e w4 ⟨y, y0, y1, rfl, hc, hg⟩
    have B4 := hid (B3.out.grown hg B3.out.size (fun g hg => by cases hg; exact hp))
    clear hc hg
    have pb := prod_bd (a := x) (b := y - 1000000) (m := 1000000) (n := 1000000) (by omega) (by omega) (by omega)
    have WF := hid (show (Lit.int .i64 (x * (y - 1000000))).wf = true from WalkArith.wf_i64 ⟨by omega, by omega⟩)
    go_wp2
    go_ret
    exact ⟨_, WF.out, rfl, B4.out⟩
theorem FnNumbers_walk (w : World) (htab : Tab w) (A : Option Addr) (n c : Nat) (hb : LoBytes w A n) (hn : n ≤ maxLen) : Calls Tryd.prog 5 #[.slice A n c] w fun e w' => e = .returned (.bool true) ∧ Below w.heap.size w w' := by
  have LB := hid hb
  have HT := hid htab
  clear hb htab
  by_cases hbig : 1048576 < n
  · have hd : decide (1048576 < n) = true := by simpa using hbig
    have BG := hid (big_any A n c w hn)
    rw [hd] at BG
    go_enter Tryd.func5, Tryd.ntmps5
    go_wp2_with fail
    refine BG.out.mono ?_
    rintro e w' ⟨rfl, rfl⟩
    go_wp2
    go_ret
    exact ⟨rfl, Below.refl _ _⟩
  · have hd : decide (1048576 < n) = false := by simpa using hbig
    have BG := hid (big_any A n c w hn)
    rw [hd] at BG
    clear hd
    go_enter Tryd.func5, Tryd.ntmps5
    go_wp2_with fail
    refine BG.out.mono ?_
    rintro e w' ⟨rfl, rfl⟩
    go_wp2_with fail
    refine (drawFmt_any A n c _ LB.out (by omega)).mono ?_
    rintro e w1 ⟨x, hwf, rfl, hb1⟩
    have B1 := hid hb1
    have T1 := hid (HT.out.below hb1)
    have WF := hid hwf
    clear hb1 BG hwf
    go_wp2_with fail
    refine (iFmt_any x _ WF.out T1.out).mono ?_
    rintro e w2 ⟨rfl, hb⟩
    have B2 := hid (then_ B1.out hb B1.out.size)
    have T2 := hid (T1.out.below hb)
    clear hb
    go_wp2_with fail
    have hsz : (itoaS x).size ≤ 1048576 := by
      rw [itoa_size]
      have h' := WF.out
      simp only [Lit.wf, Bool.and_eq_true, decide_eq_true_iff] at h'
      have hh : ∀ u : Nat, u < 10 ^ 30 → (Lib.decDigits u).length ≤ 30 := fun u hu => by
        rw [Lib.decDigits_length]
        rcases Nat.lt_or_ge (Lib.nDigits u) 31 with h | h
        · omega
        · exfalso
          have hm : ∀ (k v : Nat), v < 10 ^ k → 1 ≤ k → Lib.nDigits v ≤ k := by
            intro k
            induction k with
            | zero => intro v _ h; omega
            | succ k ih =>
              intro v hv _
              by_cases h10 : v < 10
              · rw [Lib.nDigits_small h10]; omega
              · rw [Lib.nDigits_big h10]
                rcases Nat.eq_zero_or_pos k with rfl | hk
                · simp at hv; omega
                · have := ih (v / 10) (by rw [Nat.pow_succ] at hv; omega) hk
                  omega
          have := hm 30 u hu (by omega)
          omega
      have l1 : IntKind.i64.min = -9223372036854775808 := rfl
      have l2 : IntKind.i64.max = 9223372036854775807 := rfl
      rw [l1, l2] at h'
      unfold Lib.itoa
      split
      · have := hh x.natAbs (by omega)
        simp; omega
      · have := hh x.toNat (by omega)
        omega
    have CP := hid (iParse_any (itoaS x) w2 hsz T2.out)
    unfold ParseRes at CP
    rw [parse_itoa] at CP
    have PF := hid (parseF_itoa x)
    obtain ⟨t1, t2⟩ := itoa_str x
    generalize itoaS x = t at CP PF t1 t2 ⊢
    generalize parseF t = y at CP PF ⊢
    clear hsz
    cases hin : inR x
    · have hcs : x < 0 ∨ (0 ≤ x ∧ 1000000000 < x) := by simp [inR] at hin; omega
      rw [hin] at CP
      clear hin PF
      refine CP.out.mono ?_
      rintro e w3 ⟨rfl, hb⟩
      have B3 := hid (then_ B2.out hb B2.out.size)
      clear hb
      rcases hcs with hc | ⟨hc, hc'⟩
      all_goals
        go_wp2
        go_ret
        exact ⟨rfl, B3.out⟩
    · have hcs : 0 ≤ x ∧ x ≤ 1000000000 := by simp [inR] at hin; omega
      obtain ⟨hc, hc'⟩ := hcs
      obtain rfl : y = x := PF.out hin
      rw [hin] at CP
      clear hin PF
      refine CP.out.mono ?_
      rintro e w3 ⟨rfl, hb⟩
      have B3 := hid (then_ B2.out hb B2.out.size)
      clear hb
      go_wp2
      go_ret
      exact ⟨rfl, B3.out⟩
end Go.Proofs.YtmngmmjimkdcfaaDoor

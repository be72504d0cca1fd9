/- The program's set of nodes as bits, and its list of the members of such a set. No condition but the sizes that are named. -/
import Derived.Test.YtdhppajfdcfikaaPartP
import Derived.Test.YtdhppajfdcfikaaLeadsAt
namespace Go.Proofs.Ytdhppajfdcfikaa
open Go.ChangeShapes Go.WideShapes Go.ChangeAt Go.RowKit
set_option maxHeartbeats 1000000
set_option linter.unusedSimpArgs false
set_option linter.unusedVariables false
theorem and_i64 (a b : Nat) (ha : a < 4294967296) (hb : b < 4294967296) : bits .and .i64 (a : Int) (b : Int) = ((a &&& b : Nat) : Int) := by
  have hx : a &&& b < 2 ^ 32 := Nat.and_lt_two_pow _ (by omega)
  have h1 : (BitVec.ofInt 64 (a : Int)).toNat = a := by
    rw [BitVec.ofInt_natCast, BitVec.toNat_ofNat]; exact Nat.mod_eq_of_lt (by omega)
  have h2 : (BitVec.ofInt 64 (b : Int)).toNat = b := by
    rw [BitVec.ofInt_natCast, BitVec.toNat_ofNat]; exact Nat.mod_eq_of_lt (by omega)
  show IntKind.i64.wrap ((BitVec.ofInt 64 (a : Int) &&& BitVec.ofInt 64 (b : Int)).toNat : Int) = _
  rw [BitVec.toNat_and, h1, h2, IntKind.wrap_i64]
  omega
theorem or_i64 (a b : Nat) (ha : a < 4294967296) (hb : b < 4294967296) : bits .or .i64 (a : Int) (b : Int) = ((a ||| b : Nat) : Int) := by
  have hx : a ||| b < 2 ^ 32 := Nat.or_lt_two_pow (by omega) (by omega)
  have h1 : (BitVec.ofInt 64 (a : Int)).toNat = a := by
    rw [BitVec.ofInt_natCast, BitVec.toNat_ofNat]; exact Nat.mod_eq_of_lt (by omega)
  have h2 : (BitVec.ofInt 64 (b : Int)).toNat = b := by
    rw [BitVec.ofInt_natCast, BitVec.toNat_ofNat]; exact Nat.mod_eq_of_lt (by omega)
  show IntKind.i64.wrap ((BitVec.ofInt 64 (a : Int) ||| BitVec.ofInt 64 (b : Int)).toNat : Int) = _
  rw [BitVec.toNat_or, h1, h2, IntKind.wrap_i64]
  omega
def mem (s : Nat) (k : Nat) : List Int := ((List.range k).filter fun i => s.testBit i).map fun i : Nat => (i : Int)
theorem mem_len (s k : Nat) : (mem s k).length ≤ k := by
  unfold mem; rw [List.length_map]; exact Nat.le_trans (List.length_filter_le _ _) (by simp)
theorem mem_succ (s k : Nat) : mem s (k + 1) = if s.testBit k then mem s k ++ [(k : Int)] else mem s k := by
  unfold mem; rw [List.range_succ, List.filter_append, List.map_append]
  by_cases h : s.testBit k <;> simp [h]
theorem mem_stop (s k : Nat) (h : s / 2 ^ k = 0) (j : Nat) (hj : k ≤ j) : mem s j = mem s k := by
  induction j with
  | zero => rw [show k = 0 by omega]
  | succ j ih =>
    by_cases he : k = j + 1
    · rw [he]
    · rw [mem_succ, if_neg, ih (by omega)]
      have hp : s < 2 ^ k := by rcases Nat.lt_or_ge s (2 ^ k) with h' | h'
                                · exact h'
                                · have := Nat.div_pos h' (Nat.two_pow_pos k); omega
      have hq : s < 2 ^ j := Nat.lt_of_lt_of_le hp (Nat.pow_le_pow_right (by omega) (by omega))
      simp [Nat.testBit_lt_two_pow hq]
theorem bit_of (s k : Nat) : s / 2 ^ k &&& 1 = if s.testBit k then 1 else 0 := by
  rw [Nat.testBit_eq_decide_div_mod_eq, Nat.and_one_is_mod]
  have := Nat.mod_two_eq_zero_or_one (s / 2 ^ k)
  split <;> simp_all
theorem membersOf_any (s : Nat) (hs : s < 4096) (w : World) : Calls Try.prog 100 #[.int .i64 (s : Int)] w (NewInts (mem s 12) w) := by
  obtain ⟨i0, hinf, hz0, hz1, hz2⟩ := info_parts infoI
  have HINF := hid (And.intro hinf (And.intro hz0 (And.intro hz1 hz2)))
  clear hinf hz0 hz1 hz2
  go_enter Try.func100, Try.ntmps100
  go_wp2_with fail
  go_loopw [3, 4] (fun v i wr => ∃ k : Nat, k ≤ 12 ∧ i = .int .i64 k ∧ Hid (OwnInts w.heap.size wr v (mem s k)) ∧ Below w.heap.size w wr) (fun _ i _ => 12 - (intOf i).toNat)
  case atStart => exact ⟨0, Nat.zero_le _, rfl, hid (World.ownsRow_nil _ _ _ _), Below.refl _ _⟩
  case round =>
    obtain ⟨k, hk, rfl, hown, hb⟩ := hrel
    have hk0 : (0 : Int) ≤ (k : Int) := by omega
    have hk1 : (k : Int) ≤ 64 := by omega
    have hq : (s : Int) / 2 ^ k = ((s / 2 ^ k : Nat) : Int) := by simp
    by_cases hz : s / 2 ^ k = 0
    · have hq0 : (s : Int) / 2 ^ k = 0 := by rw [hq, hz]; rfl
      have HZ := hid hz
      clear hq hz
      obtain ⟨A9, c9, rfl⟩ := own_form hown.out
      go_wp2
      go_ret
      exact ⟨_, rfl, by rw [mem_stop s k HZ.out 12 hk]; exact hown.out, hb⟩
    · have hk12 : k < 12 := by
        rcases Nat.lt_or_ge k 12 with h | h
        · exact h
        · have e : k = 12 := by omega
          subst e
          exact absurd (Nat.div_eq_of_lt (by simpa using hs)) hz
      have hpos : (0 : Int) < (s : Int) / 2 ^ k := by rw [hq]; exact Int.natCast_pos.2 (Nat.pos_of_ne_zero hz)
      have hsk : s / 2 ^ k < 4294967296 := Nat.lt_of_le_of_lt (Nat.div_le_self _ _) (by omega)
      have S9 := hid hb
      have HOW := hown
      have hbs := hb.size
      have AL := hid (mem_len s k)
      obtain ⟨A9, c9, rfl⟩ := own_form hown.out
      clear hown hb hz
      cases hbit : s.testBit k
      · have hand : bits .and .i64 ((s : Int) / 2 ^ k) 1 = 0 := by
          rw [hq]; have := and_i64 (s / 2 ^ k) 1 hsk (by decide); rw [bit_of, hbit] at this; exact this
        have E := hid (show mem s (k + 1) = mem s k by rw [mem_succ, hbit]; rfl)
        clear hq hbit hsk
        go_wp2
        go_roundw
        case rel => exact ⟨k + 1, by omega, by go_num, hid (by rw [E.out]; exact HOW.out), S9.out⟩
        case measure => simp [intOf]; omega
      · have hand : bits .and .i64 ((s : Int) / 2 ^ k) 1 = 1 := by
          rw [hq]; have := and_i64 (s / 2 ^ k) 1 hsk (by decide); rw [bit_of, hbit] at this; exact this
        have E := hid (show mem s (k + 1) = mem s k ++ [(k : Int)] by rw [mem_succ, hbit]; rfl)
        clear hq hbit hsk
        have C3 := hid (show (mem s k).length + 1 ≤ maxLen by have := AL.out; unfold maxLen; omega)
        have C4 := hid (show ((mem s k).length + 1) * 8 ≤ 140737488355328 by have := AL.out; omega)
        go_wp2_with (at_builtin; obtain ⟨hinf, hz0, hz1, hz2⟩ := HINF.out; refine wpList_append_own _ rfl _ _ 37 rfl w.heap.size 3 i0 (.int .i64 0) 1 8 Try.underlying37 hinf hz0 hz1 hz2 rfl (by decide) _ _ _ rfl (HOW.out.alloc _) ⟨wr.heap.size, 0, none⟩ 1 1 [.int .i64 k] rfl rfl (by have := cell_one_new wr (.int .i64 k) 3 ; simpa using this) (by simp [Value.oneCell']) C3.out C4.out (by simp; omega) ?_)
        intro v' w' hown' hgrow _
        have O9 := hid hown'
        have G9 := hid hgrow
        clear hown' hgrow
        have B9 := hid ((S9.out.alloc hbs (.cells #[.int .i64 k] 3)).grown G9.out (by simp; omega) (fun g hg => (HOW.out.lt g hg).1))
        go_wp2
        go_roundw
        case rel => exact ⟨k + 1, by omega, by go_num, hid (by unfold OwnInts; rw [E.out]; simpa [ints] using O9.out), B9.out⟩
        case measure => simp [intOf]; omega
end Go.Proofs.Ytdhppajfdcfikaa

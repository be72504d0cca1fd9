/- The plain function that cuts a line into its fields. No condition. -/
import Derived.Test.YtmngmmjimkdcfaaDoorTextP
namespace Go.Proofs.YtmngmmjimkdcfaaDoor
open Go.ChangeShapes Go.WideShapes Go.ChangeAt Go.RowKit
set_option linter.unusedSimpArgs false
set_option linter.unusedVariables false
/-- the fields that end ahead of place k, and where the next one may begin -/
def fldS (s : ByteArray) : Nat → List ByteArray × Nat
  | 0 => ([], 0)
  | k + 1 => if k < s.size ∧ byteAt s k ≠ 32 then fldS s k else ((if (fldS s k).2 < k then (fldS s k).1 ++ [s.extract (fldS s k).2 k] else (fldS s k).1), k + 1)
theorem fldS_le (s : ByteArray) (k : Nat) : (fldS s k).2 ≤ k := by
  induction k with
  | zero => simp [fldS]
  | succ k ih => unfold fldS; split
                 · omega
                 · exact Nat.le_refl _
theorem fldS_len (s : ByteArray) (k : Nat) : (fldS s k).1.length ≤ k := by
  induction k with
  | zero => simp [fldS]
  | succ k ih =>
    unfold fldS; split
    · omega
    · split
      · simp; omega
      · simp; omega
theorem fldS_in {s : ByteArray} {k : Nat} (hk : k < s.size) (h : byteAt s k ≠ 32) : fldS s (k + 1) = fldS s k := by rw [fldS, if_pos ⟨hk, h⟩]
theorem fldS_cut {s : ByteArray} {k : Nat} (h : ¬ (k < s.size ∧ byteAt s k ≠ 32)) (hb : (fldS s k).2 < k) : fldS s (k + 1) = ((fldS s k).1 ++ [s.extract (fldS s k).2 k], k + 1) := by rw [fldS, if_neg h, if_pos hb]
theorem fldS_skip {s : ByteArray} {k : Nat} (h : ¬ (k < s.size ∧ byteAt s k ≠ 32)) (hb : ¬ (fldS s k).2 < k) : fldS s (k + 1) = ((fldS s k).1, k + 1) := by rw [fldS, if_neg h, if_neg hb]
def okByte (c : UInt8) : Bool := decide (32 ≤ c.toNat) && decide (c.toNat ≤ 126)
def okUpto (s : ByteArray) (k : Nat) : Prop := ∀ i, i < k → okByte (byteAt s i) = true
instance (s : ByteArray) (k : Nat) : Decidable (okUpto s k) := by unfold okUpto; infer_instance
theorem okUpto_succ {s : ByteArray} {k : Nat} (h : okUpto s k) (hk : okByte (byteAt s k) = true) : okUpto s (k + 1) := fun i hi => by
  by_cases e : i = k
  · rw [e]; exact hk
  · exact h i (by omega)
def fldOk (s : ByteArray) : Bool := decide (s.size ≤ 600) && (decide (okUpto s s.size) && decide ((fldS s (s.size + 1)).1.length ≤ 24))
def fldF (s : ByteArray) : List ByteArray := if fldOk s = true then (fldS s (s.size + 1)).1 else []
theorem fldOk_byte {s : ByteArray} {k : Nat} (hk : k < s.size) (h : okByte (byteAt s k) = false) : fldOk s = false := by
  have : ¬ okUpto s s.size := fun hh => by have := hh k hk; rw [h] at this; cases this
  simp [fldOk, this]
/-- a value that is a slice of strings, whose cells lie in blocks that exist -/
def strV (xs : List ByteArray) : List Value := xs.map Value.string
/-- the decimal figures of a number, ahead of what is there already -/
def digs : Nat → Nat → List UInt8 → List UInt8
  | 0, _, acc => acc
  | f + 1, n, acc => if n = 0 then acc else digs f (n / 10) (UInt8.ofNat (48 + n % 10) :: acc)
end Go.Proofs.YtmngmmjimkdcfaaDoor

/- The plain functions on strings that the program and the reference compute: hexadecimal text, fields of a line. No condition. -/
import Derived.Test.YtmngmmjimkdcfaaDoorKit
namespace Go.Proofs.YtmngmmjimkdcfaaDoor
open Go.ChangeShapes Go.WideShapes Go.ChangeAt Go.RowKit
set_option linter.unusedSimpArgs false
set_option linter.unusedVariables false
def bytesV (l : List UInt8) : List Value := l.map fun b => .int .u8 (b.toNat : Int)
theorem bytesV_snoc (l : List UInt8) (c : UInt8) : bytesV (l ++ [c]) = bytesV l ++ [.int .u8 (c.toNat : Int)] := by simp [bytesV]
/-- the byte at a place; 0 behind the end -/
def byteAt (s : ByteArray) (k : Nat) : UInt8 := s.data.toList.getD k 0
theorem byteAt_eq (s : ByteArray) (k : Nat) (h : k < s.size) : byteAt s k = s[k] := by
  have h' : k < s.data.size := h
  unfold byteAt
  rw [List.getD_eq_getElem?_getD, List.getElem?_eq_getElem (by simpa using h')]
  simp; rfl
theorem take_snoc (s : ByteArray) (k : Nat) (h : k < s.size) : s.data.toList.take (k + 1) = s.data.toList.take k ++ [byteAt s k] := by
  rw [byteAt_eq s k h, List.take_succ_eq_append_getElem (by simpa using h)]; rfl
theorem byte_lt (c : UInt8) : (0 : Int) ≤ (c.toNat : Int) ∧ (c.toNat : Int) ≤ 255 := by have := c.toNat_lt; omega
/-! hexadecimal text -/
def figN (x : Nat) : UInt8 := if x < 10 then UInt8.ofNat (48 + x) else UInt8.ofNat (87 + x)
def encL (l : List UInt8) : List UInt8 := l.flatMap fun c => [figN (c.toNat / 16), figN (c.toNat % 16)]
theorem encL_snoc (l : List UInt8) (c : UInt8) : encL (l ++ [c]) = encL l ++ [figN (c.toNat / 16), figN (c.toNat % 16)] := by simp [encL]
theorem encL_len (l : List UInt8) : (encL l).length = 2 * l.length := by
  induction l with
  | nil => rfl
  | cons c t ih => have : encL (c :: t) = figN (c.toNat / 16) :: figN (c.toNat % 16) :: encL t := rfl
                   rw [this]; simp [ih]; omega
def encF (s : ByteArray) : ByteArray := if s.size > 20000 then ⟨#[]⟩ else ⟨(encL s.data.toList).toArray⟩
theorem figN_val (x : Nat) (h : x < 16) : (figN x).toNat = if x < 10 then 48 + x else 87 + x := by
  unfold figN; split <;> (rw [UInt8.toNat_ofNat_of_lt' (by show _ < 256; omega)])
def valN (c : UInt8) : Int := if 48 ≤ c.toNat ∧ c.toNat ≤ 57 then (c.toNat : Int) - 48 else if 97 ≤ c.toNat ∧ c.toNat ≤ 102 then (c.toNat : Int) - 87 else -1
theorem valN_bd (c : UInt8) : -1 ≤ valN c ∧ valN c ≤ 15 := by
  unfold valN; split
  · omega
  · split <;> omega
theorem valN_fig (x : Nat) (h : x < 16) : valN (figN x) = x := by
  have := figN_val x h
  unfold valN
  rw [this]
  by_cases hx : x < 10
  · rw [if_pos hx, if_pos (by omega)]; omega
  · rw [if_neg hx, if_neg (by omega), if_pos (by omega)]; omega
/-- the first k bytes are all hexadecimal figures -/
def hexUpto (s : ByteArray) (k : Nat) : Prop := ∀ i, i < k → 0 ≤ valN (byteAt s i)
instance (s : ByteArray) (k : Nat) : Decidable (hexUpto s k) := by unfold hexUpto; infer_instance
theorem hexUpto_succ {s : ByteArray} {k : Nat} (h : hexUpto s k) (hk : 0 ≤ valN (byteAt s k)) : hexUpto s (k + 1) := fun i hi => by
  by_cases e : i = k
  · rw [e]; exact hk
  · exact h i (by omega)
/-- the bytes that the first k pairs of figures stand for -/
def decL (s : ByteArray) (k : Nat) : List UInt8 := (List.range k).map fun j => UInt8.ofNat (16 * valN (byteAt s (2 * j)) + valN (byteAt s (2 * j + 1))).toNat
theorem decL_succ (s : ByteArray) (k : Nat) : decL s (k + 1) = decL s k ++ [UInt8.ofNat (16 * valN (byteAt s (2 * k)) + valN (byteAt s (2 * k + 1))).toNat] := by
  simp [decL, List.range_succ]
theorem decL_len (s : ByteArray) (k : Nat) : (decL s k).length = k := by simp [decL]
theorem pair_byte {a b : Int} (ha : 0 ≤ a ∧ a ≤ 15) (hb : 0 ≤ b ∧ b ≤ 15) : ((UInt8.ofNat (16 * a + b).toNat).toNat : Int) = 16 * a + b := by
  rw [UInt8.toNat_ofNat_of_lt' (by show _ < 256; omega)]; omega
def decOk (s : ByteArray) : Bool := decide (s.size % 2 = 0) && decide (s.size ≤ 40000) && decide (hexUpto s s.size)
def decF (s : ByteArray) : ByteArray := if decOk s = true then ⟨(decL s (s.size / 2)).toArray⟩ else ⟨#[]⟩
theorem decOk_no {s : ByteArray} {k : Nat} (hk : k < s.size) (h : valN (byteAt s k) < 0) : decOk s = false := by
  have : ¬ hexUpto s s.size := fun hh => by have := hh k hk; omega
  simp [decOk, this]
end Go.Proofs.YtmngmmjimkdcfaaDoor

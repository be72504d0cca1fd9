/- What the laws' helpers do that mark a slice of strings, look for the marks and compare two slices of strings. No condition but the sizes that are named. -/
import Derived.Test.YtmngmmjimkdcfaaDoorTextd
import Derived.Test.YtmngmmjimkdcfaaDoorFieldsP
namespace Go.Proofs.YtmngmmjimkdcfaaDoor
open Go.ChangeShapes Go.WideShapes Go.ChangeAt Go.RowKit
set_option maxHeartbeats 1000000
set_option linter.unusedSimpArgs false
set_option linter.unusedVariables false
/-- the decimal figures of a number, ahead of what is there already -/
def digW (n : Nat) (acc : List UInt8) : List UInt8 := if h : n = 0 then acc else digW (n / 10) (UInt8.ofNat (48 + n % 10) :: acc)
termination_by n
decreasing_by exact Nat.div_lt_self (by omega) (by omega)
theorem digW_zero (acc : List UInt8) : digW 0 acc = acc := by rw [digW]; simp
theorem digW_step (n : Nat) (h : 0 < n) (acc : List UInt8) : digW n acc = digW (n / 10) (UInt8.ofNat (48 + n % 10) :: acc) := by rw [digW, dif_neg (by omega)]
def mk (k : Nat) : ByteArray := ⟨#[109]⟩ ++ ⟨(digW k []).toArray⟩
theorem cons_bytes (c : UInt8) (l : List UInt8) : (⟨#[c]⟩ : ByteArray) ++ ⟨l.toArray⟩ = ⟨(c :: l).toArray⟩ := by
  apply ByteArray.ext
  simp [ByteArray.data_append]
theorem fig_byte (n : Nat) : ((UInt8.ofNat (48 + n % 10)).toNat : Int) = 48 + (n : Int) % 10 := by
  rw [UInt8.toNat_ofNat_of_lt' (by show _ < 256; omega)]; omega
theorem conv_one (w : World) (c : UInt8) (x : Int) (hx : (c.toNat : Int) = x) : (convert 27 9 (.slice (some ⟨w.heap.size, 0, none⟩) 1 1)).run Tryd.prog (w.alloc (.cells #[.int .u8 x] 5)) = .ok (.string ⟨#[c]⟩) (w.alloc (.cells #[.int .u8 x] 5)) := by
  subst hx
  exact run_convert_bytes_back _ 27 9 5 ⟨w.heap.size, 0, none⟩ 1 [c] Tryd.underlying27 Tryd.underlying5 Tryd.underlying9 (fun i hi => by
    have : i = 0 := by simpa using hi
    subst this
    simp [Addr.add, cell_new w #[.int .u8 (c.toNat : Int)] 5 w.heap.size 0 rfl])
def strs (xs : List ByteArray) : List Value := xs.map Value.string
/-- the value is a slice of these strings -/
def StrsAt (w : World) (v : Value) (xs : List ByteArray) : Prop :=
  ∃ A c, v = .slice A xs.length c ∧ xs.length ≤ 1000000000 ∧ ∀ i x, xs[i]? = some x → ∃ b off, A = some ⟨b, off, none⟩ ∧ b < w.heap.size ∧ w.cell? ⟨b, off + i, none⟩ = some (.string x)
theorem StrsAt.below {w w' : World} {v : Value} {xs : List ByteArray} (h : StrsAt w v xs) (hb : Below w.heap.size w w') : StrsAt w' v xs := by
  obtain ⟨A, c, h1, h2, h3⟩ := h
  refine ⟨A, c, h1, h2, fun i x hi => ?_⟩
  obtain ⟨b, off, e1, e2, e3⟩ := h3 i x hi
  exact ⟨b, off, e1, Nat.lt_of_lt_of_le e2 hb.size, by rw [hb.cell (p := ⟨b, _, none⟩) e2]; exact e3⟩
/-- a new slice of strings in memory from block B on -/
def OwnStrs (B : Nat) (w : World) (v : Value) (xs : List ByteArray) : Prop := w.ownsRow B 9 1 v xs.length (strs xs)
theorem ownS_form {w : World} {B : Nat} {v : Value} {xs : List ByteArray} (h : OwnStrs B w v xs) : ∃ A c, v = .slice A xs.length c := by
  rcases h.2 with ⟨h1, h2⟩ | ⟨g, cap, cur, h1, _⟩
  · exact ⟨none, 0, by rw [h1, h2]⟩
  · exact ⟨_, _, h1⟩
theorem ownS_less {B C : Nat} {w : World} {v : Value} {xs : List ByteArray} (h : OwnStrs B w v xs) (hC : C ≤ B) : OwnStrs C w v xs := by
  refine ⟨h.1, ?_⟩
  rcases h.2 with h' | ⟨g, cap, cur, h1, h2, h3⟩
  · exact .inl h'
  · exact .inr ⟨g, cap, cur, h1, by omega, h3⟩
theorem ownS_below {B : Nat} {w w' : World} {v : Value} {xs : List ByteArray} (h : OwnStrs B w v xs) (hb : Below w.heap.size w w') : OwnStrs B w' v xs := by
  refine ⟨h.1, ?_⟩
  rcases h.2 with h' | ⟨g, cap, cur, h1, h2, h3, h4⟩
  · exact .inl h'
  · have hg : g < w.heap.size := by
      rcases Nat.lt_or_ge g w.heap.size with hlt | hge
      · exact hlt
      · rw [Array.getElem?_eq_none hge] at h3; cases h3
    exact .inr ⟨g, cap, cur, h1, h2, (hb.block g hg).trans h3, h4⟩
theorem strs_get (xs : List ByteArray) (i : Nat) (x : ByteArray) (h : xs[i]? = some x) : (strs xs)[i]? = some (.string x) := by simp [strs, h]
theorem OwnStrs.at_ {B : Nat} {w : World} {v : Value} {xs : List ByteArray} (h : OwnStrs B w v xs) (hn : xs.length ≤ 1000000000) : StrsAt w v xs := by
  rcases h.2 with ⟨h1, h2⟩ | ⟨g, cap, cur, h1, h2, h3, h4⟩
  · have hx : xs = [] := List.eq_nil_of_length_eq_zero h2
    subst hx
    exact ⟨none, 0, h1, by simp, fun i x hi => by simp at hi⟩
  · have hg : g < w.heap.size := by
      rcases Nat.lt_or_ge g w.heap.size with hlt | hge
      · exact hlt
      · rw [Array.getElem?_eq_none hge] at h3; cases h3
    refine ⟨_, cap, h1, hn, fun i x hi => ⟨g, 0, rfl, hg, ?_⟩⟩
    have hi2 : i < xs.length := by
      rcases Nat.lt_or_ge i xs.length with h' | h'
      · exact h'
      · rw [List.getElem?_eq_none h'] at hi; cases hi
    subst h1
    have := World.ownsRow.cellAt h i (by omega)
    rw [show 0 + i = i by omega, this]
    exact strs_get xs i x hi
def marksT (k n : Nat) : List ByteArray := (List.range n).map (fun i : Nat => mk (k + i))
theorem marksT_len (k n : Nat) : (marksT k n).length = n := by simp [marksT]
theorem marksT_get (k n i : Nat) (h : i < n) : (marksT k n)[i]? = some (mk (k + i)) := by simp [marksT, h]
theorem marksT_succ (k n : Nat) : marksT k (n + 1) = marksT k n ++ [mk (k + n)] := by simp [marksT, List.range_succ]
theorem strs_append (a b : List ByteArray) : strs (a ++ b) = strs a ++ strs b := by simp [strs]
theorem markT_step (k : Nat) (xs : List ByteArray) (j : Nat) (hj : j < xs.length) : (strs (marksT k j ++ xs.drop j)).set j (.string (mk (k + j))) = strs (marksT k (j + 1) ++ xs.drop (j + 1)) := by
  have e : xs.drop j = xs[j] :: xs.drop (j + 1) := List.drop_eq_getElem_cons hj
  rw [marksT_succ, e, strs_append, strs_append, strs_append]
  have hl : (strs (marksT k j)).length = j := by simp [strs, marksT_len]
  generalize xs.drop (j + 1) = t
  generalize xs[j] = x
  have e2 : strs (x :: t) = .string x :: strs t := rfl
  have e3 : strs [mk (k + j)] = [.string (mk (k + j))] := rfl
  rw [List.set_append_right _ _ (by omega), hl, Nat.sub_self, e2, e3, List.set_cons_zero, List.append_assoc, List.singleton_append]
def MarkedT (B : Nat) (v : Value) (k n : Nat) (w : World) (e : Ending) (w' : World) : Prop := e = .returned (.int .i64 ((k : Int) + (n : Int))) ∧ OwnStrs B w' v (marksT k n) ∧ w.grownBy w' v.ownBlock
theorem grownBy_below {w w' : World} {row : Option Nat} (h : Below w.heap.size w w') : w.grownBy w' row := ⟨h.os, h.tape, h.output, h.size, fun k hk _ => h.block k hk⟩
end Go.Proofs.YtmngmmjimkdcfaaDoor

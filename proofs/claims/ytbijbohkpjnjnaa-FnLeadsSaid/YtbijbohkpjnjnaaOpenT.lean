/- Opening the arguments of a law: a slice of bytes. No condition. -/
import Derived.Test.YtbijbohkpjnjnaaOpen
import Derived.Deep.Slices
namespace Go.Proofs.Ytbijbohkpjnjnaa
open Go.ChangeShapes Go.WideShapes Go.ChangeAt Go.RowKit Go.Joins Go.Deep
/-- the bytes of a slice, as they lie -/
def LoBytes (w : World) (A : Option Addr) (n : Nat) : Prop :=
  ∀ k, k < n → ∃ b off x, A = some ⟨b, off, none⟩ ∧ b < w.heap.size ∧ w.cell? ⟨b, off + k, none⟩ = some (.int .u8 x) ∧ 0 ≤ x ∧ x ≤ 255
theorem LoBytes.below {w w' : World} {A : Option Addr} {n : Nat} (h : LoBytes w A n) (hb : Below w.heap.size w w') : LoBytes w' A n := fun k hk => by
  obtain ⟨b, off, x, e1, e2, e3, e4⟩ := h k hk
  exact ⟨b, off, x, e1, Nat.lt_of_lt_of_le e2 hb.size, by rw [hb.cell (p := ⟨b, _, none⟩) e2]; exact e3, e4⟩
section
variable {H : Type} {enc : TypeId × Value → H} {P : Program} {w : World} {base : Nat} {spare : Nat → Bool} {held : Bool}
theorem open_bytes {t e : TypeId} {fuel : Nat} {v : Value} {x : DataW H × List MemPlace} (ht : P.underlying t = some (.slice e)) (he : P.underlying e = some (.int .u8)) (hc : P.cellsOf e = 1) {A : Option Addr} {n c : Nat} (hv : v = .slice A n c)
    (h : DataW.trod enc P w base spare held fuel t [v] = some x) : LoBytes w A n ∧ n ≤ maxLen := by
  subst hv
  rcases open_slice1 ht hc h with ⟨h0, _⟩ | ⟨a, len, cap, m, k, V, D, Pl, hcs, hb, hl, hm, hmm, hx, hf⟩
  · simp at h0
    obtain ⟨rfl, rfl, rfl⟩ := h0
    exact ⟨fun k hk => absurd hk (by omega), by unfold maxLen; omega⟩
  · simp at hcs
    obtain ⟨rfl, rfl, rfl⟩ := hcs
    refine ⟨fun i hi => ?_, by omega⟩
    have hlm : n ≤ m := by rw [hmm]; split <;> omega
    have cellv : ∀ j, j < n → ∃ q : Int, w.cell? (a.add j) = some (.int .u8 q) ∧ 0 ≤ q ∧ q ≤ 255 := fun j hj => by
      obtain ⟨h1, h2⟩ := hf j (by omega)
      obtain ⟨q, e0, _, wf⟩ := DataW.trod_int he h2
      simp at e0
      rw [e0] at h1
      have : 0 ≤ q ∧ q ≤ 255 := by have := wf; simp only [Lit.wf, Bool.and_eq_true, decide_eq_true_iff] at this; exact this
      exact ⟨q, h1, this.1, this.2⟩
    obtain ⟨q0, h0, _⟩ := cellv 0 (by omega)
    have hsp : a.spot = none := by
      have := World.cell?_spot h0
      simpa [Addr.add] using this
    obtain ⟨b, off, spot⟩ := a
    have hspot : spot = none := hsp
    subst hspot
    obtain ⟨q, h1, h2⟩ := cellv i hi
    have k1 : w.cell? ⟨b, off + i, none⟩ = some (.int .u8 q) := by
      have := h1; simp only [Addr.add] at this; split at this
      · rename_i h0; rw [h0]; simpa using this
      · simpa using this
    exact ⟨b, off, q, rfl, World.block_lt_of_cell? w _ k1, k1, h2⟩
end
end Go.Proofs.Ytbijbohkpjnjnaa

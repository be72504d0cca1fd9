/- Opening the arguments of a law: what a struct of two ints reads as. No condition. -/
import Derived.Test.YtbijbohkpjnjnaaKit
import Derived.Lib.SmallJoins
namespace Go.Proofs.Ytbijbohkpjnjnaa
open Go.ChangeShapes Go.WideShapes Go.ChangeAt Go.RowKit Go.Joins Go.Deep
section
variable {H : Type} {enc : TypeId × Value → H} {P : Program} {w : World} {base : Nat} {spare : Nat → Bool} {held : Bool}
theorem open_pair {r : Reach} {b0 : Nat} {t ti : TypeId} {f0 f1 : Field} {v : Value} {d : DataW H} {p : List MemPlace} (hs : P.underlying t = some (.struct #[f0, f1])) (hi : P.underlying ti = some (.int .i64))
    (hone : (oneCellFields P #[f0, f1] && (f0.type == ti) && (f1.type == ti)) = true) (hC : P.cellsOf t = 2)
    (hv : Value.okWide P w r b0 t v) (h : DataW.Trod enc P w base spare held t v d p) :
    ∃ x y, v = .agg #[.int .i64 x, .int .i64 y] ∧ (Lit.int .i64 x).wf = true ∧ (Lit.int .i64 y).wf = true := by
  simp only [Bool.and_eq_true, beq_iff_eq] at hone
  obtain ⟨⟨ho, t0⟩, t1⟩ := hone
  obtain ⟨c0, c1, y0, y1, m, rfl, _, _, hy0, hy1⟩ := open_agg2 hs ho hC hv h
  rw [t0] at hy0
  rw [t1] at hy1
  obtain ⟨a, e0, _, wa⟩ := DataW.trod_int hi hy0
  obtain ⟨b, e1, _, wb⟩ := DataW.trod_int hi hy1
  simp at e0 e1
  subst e0 e1
  exact ⟨a, b, rfl, wa, wb⟩
end
end Go.Proofs.Ytbijbohkpjnjnaa

/- Opening the arguments of a law: a window (a struct of two slices of structs of two ints). No condition. -/
import Derived.Test.YtmkgdilabpehlaaOpenb
namespace Go.Proofs.Ytmkgdilabpehlaa
open Go.ChangeShapes Go.WideShapes Go.ChangeAt Go.RowKit Go.Joins Go.Deep
section
variable {H : Type} {enc : TypeId × Value → H} {P : Program} {w : World} {base : Nat} {spare : Nat → Bool} {held : Bool}
theorem open_pairs2 {t e ti : TypeId} {f0 f1 : Field} {fuel : Nat} {v : Value} {x : DataW H × List MemPlace} (ht : P.underlying t = some (.slice e)) (he : P.underlying e = some (.struct #[f0, f1])) (hi : P.underlying ti = some (.int .i64))
    (hone : (oneCellFields P #[f0, f1] && (f0.type == ti) && (f1.type == ti)) = true) (hC : P.cellsOf e = 2)
    (h : DataW.trod enc P w base spare held fuel t [v] = some x) : ∃ ns, PairsAt w v ns := by
  have hone' := hone
  simp only [Bool.and_eq_true, beq_iff_eq] at hone'
  obtain ⟨⟨ho, t0⟩, t1⟩ := hone'
  have hv : ∃ A n c, v = .slice A n c := by
    rcases open_slice_fields ht he ho hC h with ⟨h0, _⟩ | ⟨a, len, cap, m, D, Pl, hcs, _⟩
    · simp at h0; exact ⟨_, _, _, h0⟩
    · simp at hcs; exact ⟨_, _, _, hcs⟩
  obtain ⟨A, n, c, hv⟩ := hv
  exact open_pairs ht he hi hone hC hv h
theorem open_win {r : Reach} {b0 : Nat} {t ts0 ts1 e0 e1 ti : TypeId} {g0 g1 f0 f1 h0 h1 : Field} {v : Value} {d : DataW H} {p : List MemPlace} (hs : P.underlying t = some (.struct #[g0, g1])) (ht0 : P.underlying ts0 = some (.slice e0)) (ht1 : P.underlying ts1 = some (.slice e1))
    (he0 : P.underlying e0 = some (.struct #[f0, f1])) (he1 : P.underlying e1 = some (.struct #[h0, h1])) (hi : P.underlying ti = some (.int .i64))
    (hone : (oneCellFields P #[g0, g1] && (g0.type == ts0) && (g1.type == ts1)) = true) (hC : P.cellsOf t = 2)
    (hf0 : (oneCellFields P #[f0, f1] && (f0.type == ti) && (f1.type == ti)) = true) (hf1 : (oneCellFields P #[h0, h1] && (h0.type == ti) && (h1.type == ti)) = true) (hC0 : P.cellsOf e0 = 2) (hC1 : P.cellsOf e1 = 2)
    (hv : Value.okWide P w r b0 t v) (h : DataW.Trod enc P w base spare held t v d p) :
    ∃ vn vl ns ls, v = .agg #[vn, vl] ∧ PairsAt w vn ns ∧ PairsAt w vl ls := by
  simp only [Bool.and_eq_true, beq_iff_eq] at hone
  obtain ⟨⟨ho, t0⟩, t1⟩ := hone
  obtain ⟨c0, c1, y0, y1, m, rfl, _, _, hy0, hy1⟩ := open_agg2 hs ho hC hv h
  rw [t0] at hy0
  rw [t1] at hy1
  obtain ⟨ns, hn⟩ := open_pairs2 ht0 he0 hi hf0 hC0 hy0
  obtain ⟨ls, hl⟩ := open_pairs2 ht1 he1 hi hf1 hC1 hy1
  exact ⟨c0, c1, ns, ls, rfl, hn, hl⟩
end
end Go.Proofs.Ytmkgdilabpehlaa

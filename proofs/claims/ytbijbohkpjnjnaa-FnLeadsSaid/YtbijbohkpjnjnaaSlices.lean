/- What slices.Index and slices.Contains return at slices of nodes and leads. No condition. -/
import Derived.Test.YtbijbohkpjnjnaaNodec
namespace Go.Proofs.Ytbijbohkpjnjnaa
open Go.ChangeShapes Go.WideShapes Go.ChangeAt Go.RowKit
set_option maxHeartbeats 1000000
set_option linter.unusedSimpArgs false
set_option linter.unusedVariables false

def idxAt : List (Int × Int) → Int → Int → Int → Int
  | [], _, _, _ => -1
  | p :: t, x, y, s => if eqP x y p.1 p.2 then s else idxAt t x y (s + 1)
def idxP (ns : List (Int × Int)) (x y : Int) : Int := idxAt ns x y 0
def hasP (ns : List (Int × Int)) (x y : Int) : Bool := ns.any fun p => eqP x y p.1 p.2
theorem idxAt_has : ∀ (ns : List (Int × Int)) (x y s : Int), 0 ≤ s → (decide (0 ≤ idxAt ns x y s)) = hasP ns x y
  | [], _, _, _, _ => by simp [idxAt, hasP]
  | p :: t, x, y, s, hs => by
    unfold idxAt
    cases e : eqP x y p.1 p.2
    · simp [hasP, e]
      have := idxAt_has t x y (s + 1) (by omega)
      simpa [hasP] using this
    · simp [hasP, e, hs]
theorem drop_cons {ns : List (Int × Int)} {k : Nat} {p : Int × Int} (h : ns[k]? = some p) : ns.drop k = p :: ns.drop (k + 1) := by
  have hk : k < ns.length := by
    rcases Nat.lt_or_ge k ns.length with h' | h'
    · exact h'
    · rw [List.getElem?_eq_none h'] at h; cases h
  rw [List.drop_eq_getElem_cons hk]
  rw [List.getElem?_eq_getElem hk] at h
  injection h with h
  rw [h]
theorem eql_lead (a b c d : Int) (w : World) : (binOp .eql 30 (.agg #[.int .i64 a, .int .i64 b]) (.agg #[.int .i64 c, .int .i64 d])).run Try.prog w = .ok (.bool (eqP a b c d)) w := by
  have hS : Try.prog.underlying 30 = some (.struct (Try.prog.fieldsOf 30)) := by kernel_rfl
  have hp : Try.prog.stoodInHeld 30 = false := by kernel_rfl
  have u3 := Try.underlying3
  rw [run_eql_struct, show (10000 : Nat) = 9999 + 1 from rfl, run_equalIn_agg w 9999 30 _ _ hS hp]
  simp only [Program.fieldsOf, Try.underlying30]
  go_simp
  by_cases h1 : a = c <;> by_cases h2 : b = d <;> simp [h1, h2, eqP]
end Go.Proofs.Ytbijbohkpjnjnaa

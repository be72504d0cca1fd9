/- What WindowOk of the program returns, for all arguments. No condition. -/
import Derived.Test.YtbijbohkpjnjnaaWinP
import Derived.Test.YtbijbohkpjnjnaaCross
namespace Go.Proofs.Ytbijbohkpjnjnaa
open Go.ChangeShapes Go.WideShapes Go.ChangeAt Go.RowKit
set_option maxHeartbeats 2000000
set_option maxRecDepth 100000
set_option linter.unusedSimpArgs false
set_option linter.unusedVariables false

theorem PairsAt.at_ {w : World} {A : Option Addr} {n c : Nat} {ns : List (Int × Int)} {k : Nat} {x y : Int} (h : PairsAt w (.slice A n c) ns) (hk : ns[k]? = some (x, y)) : ∃ b off, A = some ⟨b, off, none⟩ ∧ b < w.heap.size ∧
    w.cell? ⟨b, off + k * 2, none⟩ = some (.int .i64 x) ∧ w.cell? ⟨b, off + k * 2 + 1, none⟩ = some (.int .i64 y) := by
  obtain ⟨A', c', e, _, _, h3⟩ := h
  injection e with eA _ _
  subst eA
  exact h3 k x y hk
end Go.Proofs.Ytbijbohkpjnjnaa

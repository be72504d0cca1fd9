/- The list of the darts around a node is short. -/
import Derived.Test.YtmkgdilabpehlaaStep
import Derived.Test.YtmkgdilabpehlaaMarkp
namespace Go.Proofs.Ytmkgdilabpehlaa
theorem anF_len (ns ls : List (Int × Int)) (k : Int) : (anF ns ls k).length ≤ 2 * ls.length := by
  unfold anF; split
  · exact around_len ns ls k
  · simp
end Go.Proofs.Ytmkgdilabpehlaa

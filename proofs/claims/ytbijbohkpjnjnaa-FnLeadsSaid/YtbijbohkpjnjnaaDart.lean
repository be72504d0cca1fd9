/- What LeadBetween, the functions on darts, LeadsAt's count and their like return, in the program and in the reference. No condition. -/
import Derived.Test.YtbijbohkpjnjnaaWinS
namespace Go.Proofs.Ytbijbohkpjnjnaa
open Go.ChangeShapes Go.WideShapes Go.ChangeAt Go.RowKit
set_option maxHeartbeats 1000000
set_option linter.unusedSimpArgs false
set_option linter.unusedVariables false

def lbF (ns ls : List (Int × Int)) (a b : Int) : Int := if winOkB ns ls then idxP ls (min a b) (max a b) else -1
def mn (a b : Int) : Int := min a b
def mx (a b : Int) : Int := max a b
end Go.Proofs.Ytbijbohkpjnjnaa

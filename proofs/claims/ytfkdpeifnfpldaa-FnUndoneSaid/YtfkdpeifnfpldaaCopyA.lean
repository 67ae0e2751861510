/- Contracts: the program's CopyCode. -/
import Derived.Test.YtfkdpeifnfpldaaPkC
namespace Go.Proofs.Ytfkdpeifnfpldaa
open Go.RowKit Go.Cm

/-- the letter at a place -/
def letAt (a : Nat) (u : List UInt8) : UInt8 := u.getD a 0
def copyOk (L W a : Int) : Bool := wideOk L W && (decide (0 ≤ a) && decide (a < W))

end Go.Proofs.Ytfkdpeifnfpldaa

/- Contract: the code that gives letters by a function. -/
import Derived.Test.YtgaeeibcfoppbaaDoorWordA
namespace Go.Proofs.YtgaeeibcfoppbaaDoor
open Go.RowKit Go.Cm

/-- may there be a code so wide? -/
def wideOk (L W : Int) : Bool := (decide (L = 2) || decide (L = 3)) && (decide (1 ≤ W) && (decide (W ≤ 4) && decide (pw L W ≤ 27)))

theorem wideOk_yes {L W : Int} (h : wideOk L W = true) : (L = 2 ∨ L = 3) ∧ 1 ≤ W ∧ W ≤ 4 ∧ pw L W ≤ 27 := by
  simpa [wideOk] using h

end Go.Proofs.YtgaeeibcfoppbaaDoor

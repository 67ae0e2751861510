/- Contracts: the index of a word, the letter that a code gives, a code on a word: the program's. -/
import Derived.Test.YtngbibaphakifaaDoorCodeB
import Derived.Test.YtngbibaphakifaaDoorWordA
import Derived.Test.YtngbibaphakifaaDoorApplyMath
namespace Go.Proofs.YtngbibaphakifaaDoor
open Go.RowKit Go.Cm

end Go.Proofs.YtngbibaphakifaaDoor

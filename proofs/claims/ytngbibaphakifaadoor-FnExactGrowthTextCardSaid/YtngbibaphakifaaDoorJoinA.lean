/- Contracts: two graphs joined, by the program. -/
import Derived.Test.YtngbibaphakifaaDoorZeroA
import Derived.Test.YtngbibaphakifaaDoorJoinMath
import Derived.Test.YtngbibaphakifaaDoorMatB
import Derived.Test.YtngbibaphakifaaDoorOwn3
namespace Go.Proofs.YtngbibaphakifaaDoor
open Go.RowKit Go.Mx

theorem infoIntSize : (Tryd.prog.info? 3).map (·.size) = some 1 := by kernel_rfl

end Go.Proofs.YtngbibaphakifaaDoor

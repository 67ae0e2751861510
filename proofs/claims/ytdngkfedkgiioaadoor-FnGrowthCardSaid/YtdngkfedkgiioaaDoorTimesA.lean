/- Contracts: products of tables, by the program and by the reference. -/
import Derived.Test.YtdngkfedkgiioaaDoorPkC
import Derived.Test.YtdngkfedkgiioaaDoorPkB
namespace Go.Proofs.YtdngkfedkgiioaaDoor
open Go.RowKit Go.Mx

end Go.Proofs.YtdngkfedkgiioaaDoor

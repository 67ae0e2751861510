/- Contracts: products and powers of matrices, by the program. -/
import Derived.Test.YtdngkfedkgiioaaDoorTimesB
namespace Go.Proofs.YtdngkfedkgiioaaDoor
open Go.RowKit Go.Mx

end Go.Proofs.YtdngkfedkgiioaaDoor

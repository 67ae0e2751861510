/- Contracts: parts of words, words without forbidden parts, by the program and by the reference. -/
import Derived.Test.YtdngkfedkgiioaaDoorPkB
import Derived.Test.YtdngkfedkgiioaaDoorPkP
import Derived.Test.YtdngkfedkgiioaaDoorPkC
import Derived.Test.YtdngkfedkgiioaaDoorShelf
namespace Go.Proofs.YtdngkfedkgiioaaDoor
open Go.RowKit Go.Cm


end Go.Proofs.YtdngkfedkgiioaaDoor

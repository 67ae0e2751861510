/- Contracts of the laws' own helpers on tables of numbers: copies, comparisons, marks. -/
import Derived.Test.YtgbbidlbdjbilaaDoorLawMat
namespace Go.Proofs.YtgbbidlbdjbilaaDoor
open Go.RowKit

end Go.Proofs.YtgbbidlbdjbilaaDoor

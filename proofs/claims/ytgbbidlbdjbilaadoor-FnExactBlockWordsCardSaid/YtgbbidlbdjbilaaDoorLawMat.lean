/- Contracts of the laws' own helpers on lists and tables of numbers: sizes, copies, comparisons, marks. -/
import Derived.Test.YtgbbidlbdjbilaaDoorMat
import Derived.Test.YtgbbidlbdjbilaaDoorFacts
import Derived.WalkLawsBesides
import Derived.Lib.Hide
namespace Go.Proofs.YtgbbidlbdjbilaaDoor
open Go.RowKit

theorem infoRow : (Tryd.prog.info? 53).map (fun i => (i.zero, i.size, i.bytes)) = some (some (.slice none 0 0), 1, 24) := by kernel_rfl
theorem ret_int {k : IntKind} {a b : Int} (h : a = b) : Ending.returned (.int k a) = .returned (.int k b) := by rw [h]
theorem ret_bool {a b : Bool} (h : a = b) : Ending.returned (.bool a) = .returned (.bool b) := by rw [h]

/-- a row's length taken off -/
def leftR (n : Int) (k : Nat) : Int := if n - k < 0 then -1 else n - k

end Go.Proofs.YtgbbidlbdjbilaaDoor

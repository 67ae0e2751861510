/- Closed facts on types of this translation. -/
import Derived.Test.YtgbbidlbdjbilaaRows
import Derived.Test.YtgbbidlbdjbilaaOwn
namespace Go.Proofs.Ytgbbidlbdjbilaa
theorem infoU8 : (Try.prog.info? 5).map (fun i => (i.zero, i.size, i.bytes)) = some (some (.int .u8 0), 1, 1) := by kernel_rfl
theorem infoInt : (Try.prog.info? 3).map (fun i => (i.zero, i.size, i.bytes)) = some (some (.int .i64 0), 1, 8) := by kernel_rfl
theorem infoStr : (Try.prog.info? 9).map (fun i => (i.zero, i.size, i.bytes)) = some (some (.string ⟨#[]⟩), 1, 16) := by kernel_rfl
end Go.Proofs.Ytgbbidlbdjbilaa

/- Closed facts on types of this translation. -/
import Derived.Test.YtgaeeibcfoppbaaDoorRows
import Derived.Test.YtgaeeibcfoppbaaDoorOwn
namespace Go.Proofs.YtgaeeibcfoppbaaDoor
theorem infoU8 : (Tryd.prog.info? 5).map (fun i => (i.zero, i.size, i.bytes)) = some (some (.int .u8 0), 1, 1) := by kernel_rfl
theorem infoInt : (Tryd.prog.info? 3).map (fun i => (i.zero, i.size, i.bytes)) = some (some (.int .i64 0), 1, 8) := by kernel_rfl
theorem infoStr : (Tryd.prog.info? 9).map (fun i => (i.zero, i.size, i.bytes)) = some (some (.string ⟨#[]⟩), 1, 16) := by kernel_rfl
end Go.Proofs.YtgaeeibcfoppbaaDoor

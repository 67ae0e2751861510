/- The closed facts that every row's proof asks. -/
import Derived.Test.YtnkikeckpkjafaaRows
import Derived.Test.YtnkikeckpkjafaaReads
namespace Go.Proofs.Ytnkikeckpkjafaa

theorem own : ownKnob Try.prog.godebug = none := by kernel_rfl
theorem laidOut : laidOutB Try.prog = true := by kernel_rfl
end Go.Proofs.Ytnkikeckpkjafaa

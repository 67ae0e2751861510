/- Contracts: two graphs joined, by the reference. -/
import Derived.Test.YtngbibaphakifaaDoorJoinA
namespace Go.Proofs.YtngbibaphakifaaDoor
open Go.RowKit Go.Mx

theorem spec_nil_rows (w : World) : ReadsRows (w.alloc (.cells #[] 22)) (.slice (some ⟨w.heap.size, 0, none⟩) 0 0) [] := ReadsRows.nil _ _ _ rfl

end Go.Proofs.YtngbibaphakifaaDoor

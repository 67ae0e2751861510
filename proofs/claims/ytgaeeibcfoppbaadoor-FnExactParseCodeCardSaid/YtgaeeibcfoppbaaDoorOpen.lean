/- The closed facts that every row's proof asks. -/
import Derived.Test.YtgaeeibcfoppbaaDoorRows
import Derived.Test.YtgaeeibcfoppbaaDoorReads
namespace Go.Proofs.YtgaeeibcfoppbaaDoor

theorem own : ownKnob Tryd.prog.godebug = none := by kernel_rfl
theorem laidOut : laidOutB Tryd.prog = true := by kernel_rfl

-- The head's words, read off the list of the text's letters: the kernel is spared the reading of a text.
set_option maxRecDepth 100000 in
theorem headWords : ∃ l, Tryd.prog.initOrder.toList = l ∧ (behindMainWord (wordsSigns l)).head? = some "cut".toList :=
  ⟨_, String.toList_ofList, by kernel_rfl⟩
theorem headCut : (behindMainWord (wordsSigns Tryd.prog.initOrder.toList)).head? = some "cut".toList := by
  obtain ⟨l, h1, h2⟩ := headWords
  rw [h1]; exact h2
theorem laysNone : Tryd.prog.laysLater = false := by kernel_rfl
theorem bearsNone : Tryd.prog.bearsReflect = false := by kernel_rfl
theorem doorNone : Tryd.prog.doorFits [] = true := by kernel_rfl
theorem mayEnter_it : Tryd.prog.mayEnter = true := mayEnter_of headCut laysNone bearsNone doorNone
theorem liftsFinal_it : Tryd.prog.liftsFinal = false := liftsFinal_of headCut
theorem make_it : Tryd.prog.make = some .cut := make_of headCut
end Go.Proofs.YtgaeeibcfoppbaaDoor

/- The closed facts that every row's proof asks. -/
import Derived.Test.YtfkdpeifnfpldaaRows
import Derived.Test.YtfkdpeifnfpldaaPkM
namespace Go.Proofs.Ytfkdpeifnfpldaa

theorem own : ownKnob Try.prog.godebug = none := by kernel_rfl
theorem laidOut : laidOutB Try.prog = true := by kernel_rfl

-- The head's words, read off the list of the text's letters: the kernel is spared the reading of a text.
set_option maxRecDepth 100000 in
theorem headWords : ∃ l, Try.prog.initOrder.toList = l ∧ (behindMainWord (wordsSigns l)).head? = some "cut".toList :=
  ⟨_, String.toList_ofList, by kernel_rfl⟩
theorem headCut : (behindMainWord (wordsSigns Try.prog.initOrder.toList)).head? = some "cut".toList := by
  obtain ⟨l, h1, h2⟩ := headWords
  rw [h1]; exact h2
theorem laysNone : Try.prog.laysLater = false := by kernel_rfl
theorem bearsNone : Try.prog.bearsReflect = false := by kernel_rfl
theorem doorNone : Try.prog.doorFits [] = true := by kernel_rfl
theorem mayEnter_it : Try.prog.mayEnter = true := mayEnter_of headCut laysNone bearsNone doorNone
theorem liftsFinal_it : Try.prog.liftsFinal = false := liftsFinal_of headCut
theorem make_it : Try.prog.make = some .cut := make_of headCut
end Go.Proofs.Ytfkdpeifnfpldaa

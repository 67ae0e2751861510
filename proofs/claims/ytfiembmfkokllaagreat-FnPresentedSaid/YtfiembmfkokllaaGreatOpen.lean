/- The closed facts that every row's proof asks. -/
import Derived.Test.YtfiembmfkokllaaGreatRows
import Derived.Test.YtfiembmfkokllaaGreatPkA
namespace Go.Proofs.YtfiembmfkokllaaGreat

theorem own : ownKnob Tryz.prog.godebug = none := by kernel_rfl
theorem laidOut : laidOutB Tryz.prog = true := by kernel_rfl

-- The head's words, read off the list of the text's letters: the kernel is spared the reading of a text.
set_option maxRecDepth 100000 in
theorem headWords : ∃ l, Tryz.prog.initOrder.toList = l ∧ (behindMainWord (wordsSigns l)).head? = some "cut".toList :=
  ⟨_, String.toList_ofList, by kernel_rfl⟩
theorem headCut : (behindMainWord (wordsSigns Tryz.prog.initOrder.toList)).head? = some "cut".toList := by
  obtain ⟨l, h1, h2⟩ := headWords
  rw [h1]; exact h2
theorem laysNone : Tryz.prog.laysLater = false := by kernel_rfl
theorem bearsNone : Tryz.prog.bearsReflect = false := by kernel_rfl
theorem doorNone : Tryz.prog.doorFits [] = true := by kernel_rfl
theorem mayEnter_it : Tryz.prog.mayEnter = true := mayEnter_of headCut laysNone bearsNone doorNone
theorem liftsFinal_it : Tryz.prog.liftsFinal = false := liftsFinal_of headCut
theorem make_it : Tryz.prog.make = some .cut := make_of headCut
end Go.Proofs.YtfiembmfkokllaaGreat

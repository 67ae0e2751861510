/- Contracts: powers, letters, what a code is. -/
import Derived.Test.YtngbibaphakifaaDoorLawCode
import Derived.Test.YtngbibaphakifaaDoorL1In
import Derived.Test.YtngbibaphakifaaDoorCodeMath
import Derived.BigQuiet
namespace Go.Proofs.YtngbibaphakifaaDoor
open Go.RowKit Go.Cm

theorem codeOk_letters {L W : Int} {s : ByteArray} (h2 : ¬ L = 2) (h3 : ¬ L = 3) : codeOk L W s = false := by simp [codeOk, h2, h3]
theorem codeOk_low {L W : Int} {s : ByteArray} (h : ¬ 1 ≤ W) : codeOk L W s = false := by simp [codeOk, h]
theorem codeOk_high {L W : Int} {s : ByteArray} (h : ¬ W ≤ 4) : codeOk L W s = false := by simp [codeOk, h]
theorem codeOk_width {L W : Int} {s : ByteArray} (h : ¬ (1 ≤ W ∧ W ≤ 4)) : codeOk L W s = false := by
  by_cases h1 : 1 ≤ W
  · exact codeOk_high (fun h4 => h ⟨h1, h4⟩)
  · exact codeOk_low h1
theorem codeOk_great {L W : Int} {s : ByteArray} (h : ¬ pw L W ≤ 27) : codeOk L W s = false := by simp [codeOk, h]
theorem codeOk_size {L W : Int} {s : ByteArray} (h : ¬ (s.size : Int) = pw L W) : codeOk L W s = false := by simp [codeOk, h]
theorem codeOk_rest {L W : Int} {s : ByteArray} (h : L = 2 ∨ L = 3) (h1 : 1 ≤ W) (h2 : W ≤ 4) (h3 : pw L W ≤ 27) (h4 : (s.size : Int) = pw L W) : codeOk L W s = areLet L s.data.toList := by
  unfold codeOk
  rw [decide_eq_true h1, decide_eq_true h2, decide_eq_true h3, decide_eq_true h4]
  rcases h with h | h <;> simp [h]

end Go.Proofs.YtngbibaphakifaaDoor

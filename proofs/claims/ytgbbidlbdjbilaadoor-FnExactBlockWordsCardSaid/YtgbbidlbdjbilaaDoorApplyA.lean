/- Contracts: the index of a word, the letter that a code gives, a code on a word: the program's. -/
import Derived.Test.YtgbbidlbdjbilaaDoorCodeB
import Derived.Test.YtgbbidlbdjbilaaDoorWordA
import Derived.Test.YtgbbidlbdjbilaaDoorApplyMath
namespace Go.Proofs.YtgbbidlbdjbilaaDoor
open Go.RowKit Go.Cm

theorem impl_isLetters_any (k : Int) (w : World) :
    Calls Tryd.prog 29 #[.int .i64 k] w fun e w' => e = .returned (.bool (decide (1 ≤ k) && decide (k ≤ 3))) ∧ w = w' := by
  by_cases h : 1 ≤ k
  · go_enter Tryd.func29, Tryd.ntmps29
    go_wp2
    go_ret
    exact ⟨ret_bool (by simp [h]), rfl⟩
  · have h' : k < 1 := by omega
    go_enter Tryd.func29, Tryd.ntmps29
    go_wp2
    go_ret
    exact ⟨ret_bool (by simp; omega), rfl⟩

end Go.Proofs.YtgbbidlbdjbilaaDoor

/- Contracts: small helpers of the reference on numbers. -/
import Derived.Test.YtngbibaphakifaaDoorLawRes
import Derived.Test.YtngbibaphakifaaDoorL1In
namespace Go.Proofs.YtngbibaphakifaaDoor
open Go.RowKit

theorem spec_l1Bit_any (b : Bool) (w : World) :
    Calls Tryd.prog 83 #[.bool b] w fun e w' => e = .returned (.int .i64 (if b = true then 1 else 0)) ∧ w = w' := by
  cases b
  all_goals
    go_enter Tryd.func83, Tryd.ntmps83
    go_wp2
    go_ret
    exact ⟨rfl, rfl⟩
theorem spec_l1Max_any (x y : Int) (w : World) :
    Calls Tryd.prog 81 #[.int .i64 x, .int .i64 y] w fun e w' => e = .returned (.int .i64 (max x y)) ∧ w = w' := by
  by_cases h : y < x
  · go_enter Tryd.func81, Tryd.ntmps81
    go_wp2
    go_ret
    exact ⟨ret_int (by omega), rfl⟩
  · go_enter Tryd.func81, Tryd.ntmps81
    go_wp2
    go_ret
    exact ⟨ret_int (by omega), rfl⟩
end Go.Proofs.YtngbibaphakifaaDoor

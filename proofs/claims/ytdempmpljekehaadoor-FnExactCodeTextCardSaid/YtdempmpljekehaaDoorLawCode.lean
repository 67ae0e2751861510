/- Contracts of the laws' own helpers on codes: the sizes, the copy, the comparison. -/
import Derived.Test.YtdempmpljekehaaDoorRows
import Derived.Test.YtdempmpljekehaaDoorTools
import Derived.WalkKit
import Derived.WalkSpells
import Derived.WalkLawsBesides
import Derived.Lib.Hide
namespace Go.Proofs.YtdempmpljekehaaDoor
open Go.RowKit

/-- a size left over -/
def leftS (n : Int) (k : Nat) : Int := if n - k < 0 then -1 else n - k
theorem leftS_le (n : Int) (k : Nat) (h : 0 ≤ n) : leftS n k ≤ n := by unfold leftS; split <;> omega

theorem ret_int {k : IntKind} {a b : Int} (h : a = b) : Ending.returned (.int k a) = .returned (.int k b) := by rw [h]
theorem ret_bool {a b : Bool} (h : a = b) : Ending.returned (.bool a) = .returned (.bool b) := by rw [h]

set_option maxHeartbeats 400000 in
theorem szCode_any (L W n : Int) (s : ByteArray) (w : World) (h0 : 0 ≤ n) (h1 : n ≤ 1048576) (hs : s.size ≤ maxLen) :
    Calls Tryd.prog 5 #[.agg #[.int .i64 L, .int .i64 W, .string s], .int .i64 n] w fun e w' => e = .returned (.int .i64 (leftS n s.size)) ∧ Ext w w' := by
  unfold maxLen at hs
  go_enter Tryd.func5, Tryd.ntmps5
  go_wp2
  all_goals go_ret
  · exact ⟨ret_int (by unfold leftS; split <;> omega), Ext.alloc _ _⟩
  · exact ⟨ret_int (by unfold leftS; split <;> omega), Ext.alloc _ _⟩

theorem toCode_any (L W : Int) (s : ByteArray) (w : World) :
    Calls Tryd.prog 7 #[.agg #[.int .i64 L, .int .i64 W, .string s]] w fun e w' => e = .returned (.agg #[.int .i64 L, .int .i64 W, .string s]) ∧ Ext w w' := by
  go_enter Tryd.func7, Tryd.ntmps7
  go_wp2
  refine bodyPost_ret (v := .agg #[.int .i64 L, .int .i64 W, .string s]) ?_ rfl ?_
  · simp [results, Tryd.results7, go_sem]
  · exact ⟨rfl, ((Ext.alloc _ _).trans (Ext.alloc _ _)).trans (Ext.alloc _ _)⟩

theorem bytes_eq {s s' : ByteArray} (h : s.toList = s'.toList) : s = s' := by
  rw [ByteArray.toList_eq, ByteArray.toList_eq] at h
  obtain ⟨⟨l⟩⟩ := s
  obtain ⟨⟨l'⟩⟩ := s'
  have : l = l' := h
  rw [this]

def sameCode (L W : Int) (s : ByteArray) (L' W' : Int) (s' : ByteArray) : Bool := decide (L = L' ∧ W = W' ∧ s = s')

end Go.Proofs.YtdempmpljekehaaDoor

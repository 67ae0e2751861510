/- Contracts of the laws' own helpers on codes: the sizes, the copy, the comparison. -/
import Derived.Test.YtgaeeibcfoppbaaDoorRows
import Derived.Test.YtgaeeibcfoppbaaDoorTools
import Derived.WalkKit
import Derived.WalkSpells
import Derived.WalkLawsBesides
import Derived.Lib.Hide
namespace Go.Proofs.YtgaeeibcfoppbaaDoor
open Go.RowKit

/-- a size left over -/
def leftS (n : Int) (k : Nat) : Int := if n - k < 0 then -1 else n - k
theorem leftS_le (n : Int) (k : Nat) (h : 0 ≤ n) : leftS n k ≤ n := by unfold leftS; split <;> omega

theorem ret_int {k : IntKind} {a b : Int} (h : a = b) : Ending.returned (.int k a) = .returned (.int k b) := by rw [h]
theorem ret_bool {a b : Bool} (h : a = b) : Ending.returned (.bool a) = .returned (.bool b) := by rw [h]

theorem bytes_eq {s s' : ByteArray} (h : s.toList = s'.toList) : s = s' := by
  rw [ByteArray.toList_eq, ByteArray.toList_eq] at h
  obtain ⟨⟨l⟩⟩ := s
  obtain ⟨⟨l'⟩⟩ := s'
  have : l = l' := h
  rw [this]

def sameCode (L W : Int) (s : ByteArray) (L' W' : Int) (s' : ByteArray) : Bool := decide (L = L' ∧ W = W' ∧ s = s')

theorem eqCode_same (L W : Int) (s : ByteArray) (w : World) :
    Calls Tryd.prog 6 #[.agg #[.int .i64 L, .int .i64 W, .string s], .agg #[.int .i64 L, .int .i64 W, .string s]] w fun e w' => e = .returned (.bool true) ∧ Ext w w' := by
  go_enter Tryd.func6, Tryd.ntmps6
  go_wp2
  go_ret
  exact ⟨rfl, (Ext.alloc _ _).trans (Ext.alloc _ _)⟩

end Go.Proofs.YtgaeeibcfoppbaaDoor

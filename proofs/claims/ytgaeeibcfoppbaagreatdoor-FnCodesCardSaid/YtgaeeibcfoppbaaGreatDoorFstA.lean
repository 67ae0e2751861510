/- Contract: the program's search for the least source. -/
import Derived.Test.YtgaeeibcfoppbaaGreatDoorPkC
import Derived.Test.YtgaeeibcfoppbaaGreatDoorPkM
namespace Go.Proofs.YtgaeeibcfoppbaaGreatDoor
open Go.RowKit Go.Cm

theorem mkS_drop (l : List UInt8) (a : Nat) : (mkS l).extract a (mkS l).size = mkS (l.drop a) := by
  apply ByteArray.ext
  apply Array.ext'
  rw [Lib.extract_data, mkS_data, mkS_data, mkS_size]
  exact List.take_of_length_le (by simp)

/-- no letter below x has an answer -/
def NoneTo {α : Type} (F : Nat → Option α) (x : Nat) : Prop := ∀ y, y < x → F y = none
theorem NoneTo.zero {α : Type} (F : Nat → Option α) : NoneTo F 0 := fun y h => absurd h (Nat.not_lt_zero y)
theorem NoneTo.succ {α : Type} {F : Nat → Option α} {x : Nat} (h : NoneTo F x) (hx : F x = none) : NoneTo F (x + 1) := fun y hy => by
  by_cases e : y = x
  · rw [e]; exact hx
  · exact h y (by omega)

theorem isLet_letN' {K x : Nat} (hx : x < K) (hK : K ≤ 3) : areLet K [letN x] = true := by
  have h2 : ((letN x).toNat : Int) = ((97 + x : Nat) : Int) := by unfold letN; exact ofNat_toNat (by omega)
  simp [areLet, isLet, h2]
  omega

/-- what a search returns -/
def srcV (r : Option (List UInt8)) : Value := .tuple #[.string (mkS (r.getD [])), .bool r.isSome]

end Go.Proofs.YtgaeeibcfoppbaaGreatDoor

/- The least source of a word. No program in sight. -/
import Derived.Test.YtdempmpljekehaaApplyMath
namespace Go.Cm

/-- the first of the answers for the letters below K -/
def firstOf {α : Type} (K : Nat) (F : Nat → Option α) : Option α := (List.range K).findSome? F
theorem firstOf_none {α : Type} {K : Nat} {F : Nat → Option α} (h : ∀ y, y < K → F y = none) : firstOf K F = none := by
  unfold firstOf
  rw [List.findSome?_eq_none_iff]
  intro y hy
  exact h y (by simpa using hy)
theorem findSome_range {α : Type} (F : Nat → Option α) (r : α) : ∀ (K x : Nat), x < K → (∀ y, y < x → F y = none) → F x = some r → (List.range K).findSome? F = some r
  | 0, x, hx, _, _ => absurd hx (Nat.not_lt_zero _)
  | K + 1, x, hx, hn, hr => by
    rw [List.range_succ, List.findSome?_append]
    by_cases h : x < K
    · rw [findSome_range F r K x h hn hr]; rfl
    · have e : x = K := by omega
      subst e
      have h0 : (List.range x).findSome? F = none := firstOf_none hn
      rw [h0]
      simp [hr]
theorem firstOf_hit {α : Type} {K x : Nat} {F : Nat → Option α} {r : α} (hx : x < K) (hn : ∀ y, y < x → F y = none) (hr : F x = some r) : firstOf K F = some r :=
  findSome_range F r K x hx hn hr

/-- the last letter of a text fits the word -/
def okS (K n : Nat) (o : ByteArray) (u v : List UInt8) : Bool := decide (v.length < n) || decide (givesL K o (v.drop (v.length - n)) = u.getD (v.length - n) 0)
/-- the least source that goes on from a text by so many letters -/
def srcL (K n : Nat) (o : ByteArray) (u : List UInt8) : Nat → List UInt8 → Option (List UInt8)
  | 0, v => some v
  | f + 1, v => firstOf K fun x => if okS K n o u (v ++ [letN x]) = true then srcL K n o u f (v ++ [letN x]) else none
theorem srcL_zero (K n : Nat) (o : ByteArray) (u v : List UInt8) : srcL K n o u 0 v = some v := rfl
theorem srcL_succ (K n : Nat) (o : ByteArray) (u v : List UInt8) (f : Nat) : srcL K n o u (f + 1) v = firstOf K fun x => if okS K n o u (v ++ [letN x]) = true then srcL K n o u f (v ++ [letN x]) else none := rfl
/-- .. if the text fits -/
def srcS (K n : Nat) (o : ByteArray) (u : List UInt8) (f : Nat) (v : List UInt8) : Option (List UInt8) := if okS K n o u v = true then srcL K n o u f v else none
end Go.Cm

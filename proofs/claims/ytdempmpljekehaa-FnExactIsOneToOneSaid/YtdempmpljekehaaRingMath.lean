/- A word that goes on with itself. No program in sight. -/
import Derived.Test.YtdempmpljekehaaApplyMath
import Derived.Lib.Repeat
namespace Go.Cm
open Go.Lib (repeatL repeatL_length repeatL_add repeatL_one)

/-- the word and its first letters behind it -/
def ringW (n : Nat) (u : List UInt8) : List UInt8 := (repeatL u n).take (u.length + n - 1)
def ringL (K n : Nat) (o : ByteArray) (u : List UInt8) : List UInt8 := applyL K n o (ringW n u)

theorem ring_fits {n : Nat} {u : List UInt8} (hn : 1 ≤ n) (hu : 1 ≤ u.length) : u.length + n - 1 ≤ n * u.length := by
  obtain ⟨a, rfl⟩ : ∃ a, n = a + 1 := ⟨n - 1, by omega⟩
  obtain ⟨b, hb⟩ : ∃ b, u.length = b + 1 := ⟨u.length - 1, by omega⟩
  rw [hb, Nat.succ_mul]
  have : a * 1 ≤ a * (b + 1) := Nat.mul_le_mul_left _ (by omega)
  omega
theorem ringW_of {n a : Nat} {u : List UInt8} (hn : 1 ≤ n) (hu : 1 ≤ u.length) (ha : u.length + n - 1 ≤ (repeatL u a).length) : (repeatL u a).take (u.length + n - 1) = ringW n u := by
  unfold ringW
  have h2 := ring_fits hn hu
  by_cases h : a ≤ n
  · rw [show n = a + (n - a) by omega, repeatL_add, show u.length + (a + (n - a)) - 1 = u.length + n - 1 by omega, List.take_append_of_le_length ha]
  · have hl := repeatL_length u n
    rw [show a = n + (a - n) by omega, repeatL_add, List.take_append_of_le_length (by omega)]
theorem ringW_length {n : Nat} {u : List UInt8} (hn : 1 ≤ n) (hu : 1 ≤ u.length) : (ringW n u).length = u.length + n - 1 := by
  unfold ringW
  rw [List.length_take, repeatL_length]
  have := ring_fits hn hu
  omega
theorem areLet_repeat {k : Int} {u : List UInt8} (h : areLet k u = true) : ∀ a, areLet k (repeatL u a) = true
  | 0 => rfl
  | a + 1 => by rw [repeatL, areLet_append, h, areLet_repeat h a]; rfl
theorem areLet_take {k : Int} {u : List UInt8} (h : areLet k u = true) (a : Nat) : areLet k (u.take a) = true := by
  unfold areLet at *
  rw [List.all_eq_true] at *
  intro c hc
  exact h c (List.mem_of_mem_take hc)
theorem areLet_ring {k : Int} {u : List UInt8} (h : areLet k u = true) (n : Nat) : areLet k (ringW n u) = true := areLet_take (areLet_repeat h n) _
theorem ringL_length {K n : Nat} {o : ByteArray} {u : List UInt8} (hn : 1 ≤ n) (hu : 1 ≤ u.length) : (ringL K n o u).length = u.length := by
  unfold ringL
  rw [applyL_length, ringW_length hn hu]
  omega
/-- a code takes a ring -/
def ringOk (L W : Int) (o s : ByteArray) : Bool := codeOk L W o && (wordOk L s && decide (1 ≤ s.size))
end Go.Cm

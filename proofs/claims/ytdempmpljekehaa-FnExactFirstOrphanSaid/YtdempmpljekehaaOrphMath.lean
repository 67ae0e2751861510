/- Sets of ends as bits, and how they go on with a letter. No program in sight. -/
import Derived.Test.YtdempmpljekehaaSrcMath
import Derived.Laws.BitsLemmas
import Derived.Laws.BitsAllLaws
namespace Go.Cm

def addS (K N : Nat) (o : ByteArray) (S : Nat) (c : UInt8) (v T x : Nat) : Nat := if S.testBit v = true ∧ o.data.toList.getD (v * K + x) 0 = c then T ||| 2 ^ ((v * K + x) % N) else T
def rowB (K N : Nat) (o : ByteArray) (S : Nat) (c : UInt8) (v T a : Nat) : Nat := (List.range a).foldl (addS K N o S c v) T
def allB (K N : Nat) (o : ByteArray) (S : Nat) (c : UInt8) (b : Nat) : Nat := (List.range b).foldl (fun T v => rowB K N o S c v T K) 0
def nextS (K N : Nat) (o : ByteArray) (S : Nat) (c : UInt8) : Nat := allB K N o S c N
theorem rowB_zero (K N : Nat) (o : ByteArray) (S : Nat) (c : UInt8) (v T : Nat) : rowB K N o S c v T 0 = T := rfl
theorem rowB_succ (K N : Nat) (o : ByteArray) (S : Nat) (c : UInt8) (v T a : Nat) : rowB K N o S c v T (a + 1) = addS K N o S c v (rowB K N o S c v T a) a := by simp [rowB, List.range_succ]
theorem allB_zero (K N : Nat) (o : ByteArray) (S : Nat) (c : UInt8) : allB K N o S c 0 = 0 := rfl
theorem allB_succ (K N : Nat) (o : ByteArray) (S : Nat) (c : UInt8) (b : Nat) : allB K N o S c (b + 1) = rowB K N o S c b (allB K N o S c b) K := by simp [allB, List.range_succ]
theorem addS_lt {K N : Nat} (hN : 0 < N) {o : ByteArray} {S : Nat} {c : UInt8} {v T x : Nat} (h : T < 2 ^ N) : addS K N o S c v T x < 2 ^ N := by
  unfold addS
  split
  · exact Nat.or_lt_two_pow h (Nat.pow_lt_pow_right (by omega) (Nat.mod_lt _ hN))
  · exact h
theorem rowB_lt {K N : Nat} (hN : 0 < N) {o : ByteArray} {S : Nat} {c : UInt8} {v T : Nat} (h : T < 2 ^ N) : ∀ a, rowB K N o S c v T a < 2 ^ N
  | 0 => h
  | a + 1 => by rw [rowB_succ]; exact addS_lt hN (rowB_lt hN h a)
theorem allB_lt {K N : Nat} (hN : 0 < N) (o : ByteArray) (S : Nat) (c : UInt8) : ∀ b, allB K N o S c b < 2 ^ N
  | 0 => by rw [allB_zero]; exact Nat.pow_pos (by omega)
  | b + 1 => by rw [allB_succ]; exact rowB_lt hN (allB_lt hN o S c b) K
theorem rowB_off {K N : Nat} {o : ByteArray} {S : Nat} {c : UInt8} {v T : Nat} (h : S.testBit v = false) : ∀ a, rowB K N o S c v T a = T
  | 0 => rfl
  | a + 1 => by rw [rowB_succ, rowB_off h a]; simp [addS, h]
theorem bit_eq (S v : Nat) : ((S / 2 ^ v) &&& 1 = 1) ↔ S.testBit v = true := by
  rw [Nat.testBit_eq_decide_div_mod_eq, Nat.and_one_is_mod]
  simp
theorem bit_ne {S v : Nat} (h : S.testBit v = false) : (S / 2 ^ v) &&& 1 = 0 := by
  have h1 : ¬ ((S / 2 ^ v) &&& 1 = 1) := fun e => by rw [(bit_eq S v).1 e] at h; cases h
  rw [Nat.and_one_is_mod] at h1 ⊢
  omega
theorem i64_bits (a b : Nat) (ha : a < 1024) (hb : b < 1024) : bits .and .i64 (a : Int) (b : Int) = ((a &&& b : Nat) : Int) ∧ bits .or .i64 (a : Int) (b : Int) = ((a ||| b : Nat) : Int) := by
  refine bits_nat .i64 10 (by decide) (fun n h0 h1 => ?_) a b (by omega) (by omega)
  rw [IntKind.wrap_i64]
  have : (2 : Int) ^ 10 = 1024 := by decide
  omega
theorem bit_on (S v : Nat) (hS : S < 1024) : (bits .and .i64 ((S : Int) / 2 ^ v) 1 == 1) = S.testBit v := by
  have e : (S : Int) / 2 ^ v = ((S / 2 ^ v : Nat) : Int) := by simp
  have hle : S / 2 ^ v ≤ S := Nat.div_le_self _ _
  have h1 := (i64_bits (S / 2 ^ v) 1 (by omega) (by omega)).1
  rw [e]
  rw [show ((1 : Nat) : Int) = 1 from rfl] at h1
  rw [h1]
  cases hb : S.testBit v with
  | true => rw [(bit_eq S v).2 hb]; rfl
  | false => rw [bit_ne hb]; rfl
theorem pow_int (j : Nat) : (2 : Int) ^ j = ((2 ^ j : Nat) : Int) := by simp
end Go.Cm

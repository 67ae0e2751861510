/- Plain words and codes: letters, powers. No program in sight. -/
import Derived.WalkKit
import Derived.Lib.Strings
namespace Go.Cm
open Go.RowKit

/-- a power -/
def pw (k n : Int) : Int := k ^ n.toNat
theorem pw_zero (k : Int) : pw k 0 = 1 := by simp [pw]
theorem pw_succ (k : Int) (n : Nat) : pw k ((n : Int) + 1) = pw k n * k := by
  unfold pw
  have h : ((n : Int) + 1).toNat = n + 1 := by omega
  have h' : ((n : Int)).toNat = n := by omega
  rw [h, h', Int.pow_succ]
theorem pw_nonneg {k : Int} (h : 0 ≤ k) (n : Nat) : 0 ≤ pw k n := by
  induction n with
  | zero => simp [pw]
  | succ n ih =>
    have : ((n + 1 : Nat) : Int) = (n : Int) + 1 := by omega
    rw [this, pw_succ]
    exact Int.mul_nonneg ih h
theorem pw_le {k : Int} (h0 : 0 ≤ k) (h3 : k ≤ 3) (n : Nat) : pw k n ≤ 3 ^ n := by
  induction n with
  | zero => simp [pw]
  | succ n ih =>
    have e : ((n + 1 : Nat) : Int) = (n : Int) + 1 := by omega
    rw [e, pw_succ, Int.pow_succ]
    exact Int.mul_le_mul ih h3 h0 (Int.le_trans (pw_nonneg h0 n) ih)
theorem pow3_le {n : Nat} (h : n ≤ 16) : (3 : Int) ^ n ≤ 43046721 := by
  have : (3 : Nat) ^ n ≤ 3 ^ 16 := Nat.pow_le_pow_right (by omega) h
  have e : (3 : Int) ^ n = ((3 ^ n : Nat) : Int) := by simp
  rw [e]
  have e2 : (3 : Nat) ^ 16 = 43046721 := by decide
  omega
theorem pw_bd {k n : Int} (h0 : 0 ≤ k) (h3 : k ≤ 3) (hn : 0 ≤ n) (h16 : n ≤ 16) : 0 ≤ pw k n ∧ pw k n ≤ 43046721 := by
  obtain ⟨m, rfl⟩ := Int.eq_ofNat_of_zero_le hn
  exact ⟨pw_nonneg h0 m, Int.le_trans (pw_le h0 h3 m) (pow3_le (by omega))⟩

/-- one letter of the first k -/
def isLet (k : Int) (c : UInt8) : Bool := decide (97 ≤ (c.toNat : Int)) && decide ((c.toNat : Int) - 97 < k)
/-- letters alone -/
def areLet (k : Int) (l : List UInt8) : Bool := l.all (isLet k)

theorem take_snoc (s : ByteArray) (k : Nat) (h : k < s.size) : s.data.toList.take (k + 1) = s.data.toList.take k ++ [s[k]] := by
  rw [List.take_succ_eq_append_getElem (by simpa using h)]; rfl
theorem take_all (s : ByteArray) : s.data.toList.take s.size = s.data.toList := List.take_of_length_le (by simp)
theorem areLet_snoc {k : Int} {s : ByteArray} {n : Nat} (h : n < s.size) (hp : areLet k (s.data.toList.take n) = true) (h1 : 97 ≤ (s[n].toNat : Int)) (h2 : (s[n].toNat : Int) - 97 < k) : areLet k (s.data.toList.take (n + 1)) = true := by
  rw [take_snoc s n h]
  simp only [areLet, List.all_append] at hp ⊢
  simp [hp, isLet, h1, h2]
theorem areLet_bad {k : Int} {s : ByteArray} {n : Nat} (h : n < s.size) (h1 : ¬ (97 ≤ (s[n].toNat : Int) ∧ (s[n].toNat : Int) - 97 < k)) : areLet k s.data.toList = false := by
  unfold areLet
  rw [List.all_eq_false]
  refine ⟨s[n], ?_, ?_⟩
  · have : s.data.toList[n]'(by simpa using h) = s[n] := rfl
    rw [← this]; exact List.getElem_mem _
  · simp only [isLet, Bool.and_eq_true, decide_eq_true_eq]
    exact h1
theorem areLet_all {k : Int} {s : ByteArray} (hp : areLet k (s.data.toList.take s.size) = true) : areLet k s.data.toList = true := by rwa [take_all] at hp

/-- What a code is. -/
def codeOk (L W : Int) (s : ByteArray) : Bool := (decide (L = 2) || decide (L = 3)) && (decide (1 ≤ W) && (decide (W ≤ 4) && (decide (pw L W ≤ 27) && (decide ((s.size : Int) = pw L W) && areLet L s.data.toList))))
end Go.Cm

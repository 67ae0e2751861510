/- Pairs of ends that follow each other under one letter; codes that are one-to-one. No program in sight. -/
import Derived.Test.YtdempmpljekehaaLiveMath
import Derived.Test.YtdempmpljekehaaPermMath
namespace Go.Cm

/-- one step of a pair, if the letters are the same -/
def pairS (K N : Nat) (o : ByteArray) (u v x y : Nat) : List Nat := if o.data.toList.getD (u * K + x) 0 = o.data.toList.getD (v * K + y) 0 then [(u * K + x) % N * N + (v * K + y) % N] else []
def rowTo (K N : Nat) (o : ByteArray) (u v x : Nat) : List Nat := (List.range x).flatMap fun x => (List.range K).flatMap fun y => pairS K N o u v x y
def rowIn (K N : Nat) (o : ByteArray) (u v x y : Nat) : List Nat := rowTo K N o u v x ++ (List.range y).flatMap fun y => pairS K N o u v x y
theorem rowIn_zero (K N : Nat) (o : ByteArray) (u v x : Nat) : rowIn K N o u v x 0 = rowTo K N o u v x := by simp [rowIn]
theorem rowIn_succ (K N : Nat) (o : ByteArray) (u v x y : Nat) : rowIn K N o u v x (y + 1) = rowIn K N o u v x y ++ pairS K N o u v x y := by simp [rowIn, List.range_succ]
theorem rowIn_all (K N : Nat) (o : ByteArray) (u v x : Nat) : rowIn K N o u v x K = rowTo K N o u v (x + 1) := by simp [rowIn, rowTo, List.range_succ]
theorem pairS_length (K N : Nat) (o : ByteArray) (u v x y : Nat) : (pairS K N o u v x y).length ≤ 1 := by unfold pairS; split <;> simp
theorem flatMap_le {α : Type} (f : Nat → List α) (m : Nat) (hf : ∀ y, (f y).length ≤ m) : ∀ k, ((List.range k).flatMap f).length ≤ k * m
  | 0 => by simp
  | k + 1 => by
    have := flatMap_le f m hf k
    have h2 := hf k
    rw [List.range_succ, List.flatMap_append, List.length_append, Nat.succ_mul]
    simp only [List.flatMap_cons, List.flatMap_nil, List.append_nil]
    omega
theorem rowTo_length (K N : Nat) (o : ByteArray) (u v x : Nat) : (rowTo K N o u v x).length ≤ x * K := by
  refine flatMap_le _ K (fun x => ?_) x
  have := flatMap_le (fun y => pairS K N o u v x y) 1 (fun y => pairS_length K N o u v x y) K
  omega
theorem rowIn_length (K N : Nat) (o : ByteArray) (u v x y : Nat) : (rowIn K N o u v x y).length ≤ x * K + y := by
  have h1 := rowTo_length K N o u v x
  have h2 := flatMap_le (fun y => pairS K N o u v x y) 1 (fun y => pairS_length K N o u v x y) y
  unfold rowIn
  rw [List.length_append]
  omega
/-- all pairs' steps -/
def stepsL (K N : Nat) (o : ByteArray) : List (List Nat) := (List.range (N * N)).map fun p => rowTo K N o (p / N) (p % N) K
theorem stepsL_length (K N : Nat) (o : ByteArray) : (stepsL K N o).length = N * N := by simp [stepsL]
theorem stepsL_take (K N : Nat) (o : ByteArray) (p : Nat) (h : p < N * N) : (stepsL K N o).take (p + 1) = (stepsL K N o).take p ++ [rowTo K N o (p / N) (p % N) K] := by
  rw [List.take_succ_eq_append_getElem (by rw [stepsL_length]; exact h)]
  simp [stepsL]
theorem pair_lt {N a b : Nat} (ha : a < N) (hb : b < N) : a * N + b < N * N := by
  have : (a + 1) * N ≤ N * N := Nat.mul_le_mul_right N ha
  rw [Nat.succ_mul] at this
  omega
theorem stepsL_row (K N : Nat) (o : ByteArray) (i : Nat) : (stepsL K N o).getD i [] = if i < N * N then rowTo K N o (i / N) (i % N) K else [] := by
  rw [List.getD_eq_getElem?_getD]
  by_cases h : i < N * N
  · rw [List.getElem?_eq_getElem (by rw [stepsL_length]; exact h), if_pos h]
    simp [stepsL]
  · rw [List.getElem?_eq_none (by rw [stepsL_length]; omega), if_neg h]
    rfl
theorem rowTo_ent {K N : Nat} (hN : 0 < N) (o : ByteArray) (u v x e : Nat) (h : e ∈ rowTo K N o u v x) : e < N * N := by
  unfold rowTo at h
  rw [List.mem_flatMap] at h
  obtain ⟨a, _, h⟩ := h
  rw [List.mem_flatMap] at h
  obtain ⟨b, _, h⟩ := h
  unfold pairS at h
  split at h
  · simp at h
    rw [h]
    exact pair_lt (Nat.mod_lt _ hN) (Nat.mod_lt _ hN)
  · simp at h

/-- different letters for different words of one letter -/
def injB (o : ByteArray) : Bool := (List.range o.size).all fun i => (List.range i).all fun k => !decide (o.data.toList.getD i 0 = o.data.toList.getD k 0)
/-- only pairs of one end with itself are lively -/
def diagB (l : List Bool) (N i : Nat) : Bool := !(l.getD i false && !decide (i / N = i % N))
def oneB (K n : Nat) (o : ByteArray) : Bool := if n = 1 then injB o else (List.range (K ^ (n - 1) * K ^ (n - 1))).all (diagB (livelyL (stepsL K (K ^ (n - 1)) o)) (K ^ (n - 1)))
end Go.Cm

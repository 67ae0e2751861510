/- Plain laws: sums over rows and columns, numbers of paths. No dump is imported. -/
import Derived.Test.YtgbbidlbdjbilaaPkB
namespace Go.Mx
open Go

def sumN (N : Nat) (f : Nat → Int) : Int := ((List.range N).map f).sum
theorem sumN_zero (f : Nat → Int) : sumN 0 f = 0 := rfl
theorem sumN_succ (N : Nat) (f : Nat → Int) : sumN (N + 1) f = sumN N f + f N := by
  unfold sumN
  rw [List.range_succ, List.map_append, List.sum_append]
  simp
theorem sumN_congr {N : Nat} {f g : Nat → Int} (h : ∀ i, i < N → f i = g i) : sumN N f = sumN N g := by
  induction N with
  | zero => rfl
  | succ N ih => rw [sumN_succ, sumN_succ, ih (fun i hi => h i (by omega)), h N (by omega)]
theorem sumN_mul (N : Nat) (c : Int) (f : Nat → Int) : sumN N (fun i => c * f i) = c * sumN N f := by
  induction N with
  | zero => simp [sumN_zero]
  | succ N ih => rw [sumN_succ, sumN_succ, ih, Int.mul_add]
theorem sumN_mul_right (N : Nat) (c : Int) (f : Nat → Int) : sumN N (fun i => f i * c) = sumN N f * c := by
  induction N with
  | zero => simp [sumN_zero]
  | succ N ih => rw [sumN_succ, sumN_succ, ih, Int.add_mul]
theorem sumN_add (N : Nat) (f g : Nat → Int) : sumN N (fun i => f i + g i) = sumN N f + sumN N g := by
  induction N with
  | zero => rfl
  | succ N ih => rw [sumN_succ, sumN_succ, sumN_succ, ih]; omega
theorem sumN_comm (N K : Nat) (f : Nat → Nat → Int) : sumN N (fun i => sumN K (f i)) = sumN K fun j => sumN N fun i => f i j := by
  induction N with
  | zero =>
    have : sumN K (fun _ => sumN 0 fun i => f i 0) = 0 := by
      induction K with
      | zero => rfl
      | succ K ih => rw [sumN_succ, ih]; rfl
    rw [sumN_zero]
    rw [show (fun j => sumN 0 fun i => f i j) = fun _ => sumN 0 fun i => f i 0 from rfl]
    exact this.symm
  | succ N ih =>
    rw [sumN_succ, ih, ← sumN_add]
    exact sumN_congr fun j _ => (sumN_succ N fun i => f i j).symm
theorem sumN_bd {f : Nat → Int} {B : Int} (h : ∀ i, 0 ≤ f i ∧ f i ≤ B) : ∀ n : Nat, 0 ≤ sumN n f ∧ sumN n f ≤ (n : Int) * B
  | 0 => by simp [sumN_zero]
  | n + 1 => by
    have h1 := sumN_bd h n
    have h2 := h n
    rw [sumN_succ]
    have e : ((n + 1 : Nat) : Int) * B = (n : Int) * B + B := by
      rw [show ((n + 1 : Nat) : Int) = (n : Int) + 1 by omega, Int.add_mul]
      omega
    omega
/-- the numbers of paths from each vertex -/
def colC (M : Nat → Nat → Int) (N : Nat) : Nat → Nat → Int
  | 0, _ => 1
  | k + 1, i => sumN N fun j => M i j * colC M N k j
/-- .. to each vertex -/
def rowC (M : Nat → Nat → Int) (N : Nat) : Nat → Nat → Int
  | 0, _ => 1
  | k + 1, j => sumN N fun x => rowC M N k x * M x j
theorem row_col_step (M : Nat → Nat → Int) (N a b : Nat) : sumN N (fun j => rowC M N (a + 1) j * colC M N b j) = sumN N fun x => rowC M N a x * colC M N (b + 1) x := by
  have h1 : sumN N (fun j => rowC M N (a + 1) j * colC M N b j) = sumN N fun j => sumN N fun x => rowC M N a x * M x j * colC M N b j := by
    apply sumN_congr
    intro j _
    exact (sumN_mul_right N (colC M N b j) fun x => rowC M N a x * M x j).symm
  have h2 : sumN N (fun x => rowC M N a x * colC M N (b + 1) x) = sumN N fun x => sumN N fun j => rowC M N a x * M x j * colC M N b j := by
    apply sumN_congr
    intro x _
    show rowC M N a x * sumN N (fun j => M x j * colC M N b j) = _
    rw [← sumN_mul]
    exact sumN_congr fun j _ => (Int.mul_assoc _ _ _).symm
  rw [h1, h2, sumN_comm]
theorem row_col_shift (M : Nat → Nat → Int) (N : Nat) : ∀ a b, sumN N (fun j => rowC M N a j * colC M N b j) = sumN N fun j => rowC M N 0 j * colC M N (a + b) j
  | 0, b => by rw [Nat.zero_add]
  | a + 1, b => by rw [row_col_step, row_col_shift M N a (b + 1), show a + (b + 1) = a + 1 + b by omega]
theorem row_col (M : Nat → Nat → Int) (N k : Nat) : sumN N (rowC M N k) = sumN N (colC M N k) := by
  have h := row_col_shift M N k 0
  have e1 : sumN N (fun j => rowC M N k j * colC M N 0 j) = sumN N (rowC M N k) := sumN_congr fun j _ => Int.mul_one _
  have e2 : sumN N (fun j => rowC M N 0 j * colC M N (k + 0) j) = sumN N (colC M N k) := sumN_congr fun j _ => Int.one_mul _
  rw [e1, e2] at h
  exact h

theorem mul01 {x c B : Int} (h0 : 0 ≤ x) (h1 : x ≤ 1) (hc : 0 ≤ c ∧ c ≤ B) : 0 ≤ x * c ∧ x * c ≤ B := by
  have hx : x = 0 ∨ x = 1 := by omega
  rcases hx with rfl | rfl
  · rw [Int.zero_mul]; omega
  · rw [Int.one_mul]; exact hc
theorem pow9_le {k : Nat} (h : k ≤ 18) : (9 : Int) ^ k ≤ 150094635296999121 := by
  have h1 : (9 : Nat) ^ k ≤ 9 ^ 18 := Nat.pow_le_pow_right (by omega) h
  have h2 : (9 : Nat) ^ 18 = 150094635296999121 := by decide
  have h3 : (9 : Int) ^ k = ((9 ^ k : Nat) : Int) := by simp
  rw [h3]
  omega
theorem pow9_pos (k : Nat) : (0 : Int) ≤ (9 : Int) ^ k := Int.pow_nonneg (by omega)
theorem colC_bd {M : Nat → Nat → Int} {N : Nat} (hM : ∀ i j, 0 ≤ M i j ∧ M i j ≤ 1) (hN : N ≤ 9) : ∀ k i, 0 ≤ colC M N k i ∧ colC M N k i ≤ (9 : Int) ^ k
  | 0, i => by simp [colC]
  | k + 1, i => by
    have h := sumN_bd (B := (9 : Int) ^ k) (f := fun j => M i j * colC M N k j) (fun j => mul01 (hM i j).1 (hM i j).2 (colC_bd hM hN k j)) N
    have h9 := pow9_pos k
    have e : (9 : Int) ^ (k + 1) = (9 : Int) ^ k * 9 := Int.pow_succ _ _
    have h3 : (N : Int) * (9 : Int) ^ k ≤ 9 * (9 : Int) ^ k := Int.mul_le_mul_of_nonneg_right (by omega) h9
    show 0 ≤ sumN N _ ∧ sumN N _ ≤ _
    rw [e]
    omega
theorem rowC_bd {M : Nat → Nat → Int} {N : Nat} (hM : ∀ i j, 0 ≤ M i j ∧ M i j ≤ 1) (hN : N ≤ 9) : ∀ k i, 0 ≤ rowC M N k i ∧ rowC M N k i ≤ (9 : Int) ^ k
  | 0, i => by simp [rowC]
  | k + 1, i => by
    have h := sumN_bd (B := (9 : Int) ^ k) (f := fun j => rowC M N k j * M j i) (fun j => by rw [Int.mul_comm]; exact mul01 (hM j i).1 (hM j i).2 (rowC_bd hM hN k j)) N
    have h9 := pow9_pos k
    have e : (9 : Int) ^ (k + 1) = (9 : Int) ^ k * 9 := Int.pow_succ _ _
    have h3 : (N : Int) * (9 : Int) ^ k ≤ 9 * (9 : Int) ^ k := Int.mul_le_mul_of_nonneg_right (by omega) h9
    show 0 ≤ sumN N _ ∧ sumN N _ ≤ _
    rw [e]
    omega
/-- one entry's sum on the way -/
def colTo (M : Nat → Nat → Int) (N k i j : Nat) : Int := sumN j fun q => M i q * colC M N k q
theorem colTo_succ (M : Nat → Nat → Int) (N k i j : Nat) : colTo M N k i (j + 1) = colTo M N k i j + M i j * colC M N k j := sumN_succ _ _
theorem colTo_all (M : Nat → Nat → Int) (N k i : Nat) : colTo M N k i N = colC M N (k + 1) i := rfl
/-- the next column on the way -/
def nextTo (M : Nat → Nat → Int) (N k i j : Nat) : List Int := rowF N fun q => if q < i then colC M N (k + 1) q else if q = i then colTo M N k i j else 0
theorem nextTo_length (M : Nat → Nat → Int) (N k i j : Nat) : (nextTo M N k i j).length = N := rowF_length _ _
theorem nextTo_zero (M : Nat → Nat → Int) (N k : Nat) : nextTo M N k 0 0 = List.replicate N 0 := by
  rw [← rowF_zero]
  exact rowF_congr fun q _ => by
    rw [if_neg (by omega)]
    split
    · rfl
    · rfl
theorem nextTo_at (M : Nat → Nat → Int) (N k i j : Nat) (hi : i < N) : (nextTo M N k i j).getD i 0 = colTo M N k i j := by
  unfold nextTo
  rw [rowF_at _ _ _ hi, if_neg (by omega), if_pos rfl]
theorem nextTo_set (M : Nat → Nat → Int) (N k i j : Nat) : (nextTo M N k i j).set i (colTo M N k i j + M i j * colC M N k j) = nextTo M N k i (j + 1) := by
  unfold nextTo
  rw [rowF_set]
  apply rowF_congr
  intro q _
  unfold updR
  by_cases e : q = i
  · subst e
    rw [if_pos rfl, if_neg (by omega), if_pos rfl, colTo_succ]
  · simp only [if_neg e]
theorem nextTo_row (M : Nat → Nat → Int) (N k i : Nat) : nextTo M N k i N = nextTo M N k (i + 1) 0 := by
  unfold nextTo
  apply rowF_congr
  intro q _
  by_cases e : q < i
  · rw [if_pos e, if_pos (by omega)]
  · by_cases e2 : q = i
    · subst e2
      rw [if_neg e, if_pos rfl, if_pos (by omega), colTo_all]
    · rw [if_neg e, if_neg e2, if_neg (by omega)]
      split
      · rfl
      · rfl
theorem nextTo_all (M : Nat → Nat → Int) (N k : Nat) : nextTo M N k N 0 = rowF N (colC M N (k + 1)) := by
  unfold nextTo
  exact rowF_congr fun q hq => by rw [if_pos hq]
def onesTo (N k : Nat) : List Int := rowF N fun q => if q < k then 1 else 0
theorem onesTo_zero (N : Nat) : onesTo N 0 = List.replicate N 0 := by
  rw [← rowF_zero]
  exact rowF_congr fun q _ => by rw [if_neg (by omega)]
theorem onesTo_set (N k : Nat) : (onesTo N k).set k 1 = onesTo N (k + 1) := by
  unfold onesTo
  rw [rowF_set]
  apply rowF_congr
  intro q _
  unfold updR
  by_cases e : q = k
  · subst e; rw [if_pos rfl, if_pos (by omega)]
  · rw [if_neg e]
    by_cases h : q < k
    · have h' : q < k + 1 := by omega
      simp only [if_pos h, if_pos h']
    · have h' : ¬ q < k + 1 := by omega
      simp only [if_neg h, if_neg h']
theorem onesTo_all (M : Nat → Nat → Int) (N : Nat) : onesTo N N = rowF N (colC M N 0) := by
  unfold onesTo
  exact rowF_congr fun q hq => by rw [if_pos hq]; rfl
theorem onesTo_length (N k : Nat) : (onesTo N k).length = N := rowF_length _ _
theorem sum_rowF (N : Nat) (f : Nat → Int) : (rowF N f).sum = sumN N f := rfl
theorem sum_take_rowF (N : Nat) (f : Nat → Int) (k : Nat) (h : k ≤ N) : ((rowF N f).take k).sum = sumN k f := by
  unfold rowF sumN
  rw [← List.map_take, List.take_range, Nat.min_eq_left h]
end Go.Mx

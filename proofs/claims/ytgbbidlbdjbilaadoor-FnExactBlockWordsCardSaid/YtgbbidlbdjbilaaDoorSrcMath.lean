/- Counts of sources by their last letters. No program in sight. -/
import Derived.Test.YtgbbidlbdjbilaaDoorApplyMath
namespace Go.Cm

/-- numbers as cells -/
def ncells (l : List Nat) : List Value := l.map fun x : Nat => Value.int .i64 (x : Int)
theorem ncells_length (l : List Nat) : (ncells l).length = l.length := by simp [ncells]
theorem ncells_at (l : List Nat) (j : Nat) (h : j < l.length) : (ncells l)[j]'(by rw [ncells_length]; exact h) = .int .i64 ((l.getD j 0 : Nat) : Int) := by
  simp [ncells, List.getD_eq_getElem?_getD, List.getElem?_eq_getElem h]
theorem ncells_set (l : List Nat) (j x : Nat) : (ncells l).set j (.int .i64 (x : Int)) = ncells (l.set j x) := by simp [ncells, List.map_set]
theorem ncells_replicate (n x : Nat) : ncells (List.replicate n x) = List.replicate n (.int .i64 (x : Int)) := by simp [ncells]

def hitL (K n : Nat) (o : ByteArray) (c : UInt8) (now : List Nat) (v : Nat) (nx : List Nat) (x : Nat) : List Nat :=
  if o.data.toList.getD (v * K + x) 0 = c then nx.set ((v * K + x) % n) (nx.getD ((v * K + x) % n) 0 + now.getD v 0) else nx
def rowH (K n : Nat) (o : ByteArray) (c : UInt8) (now : List Nat) (v : Nat) (nx : List Nat) (a : Nat) : List Nat := (List.range a).foldl (hitL K n o c now v) nx
def allH (K n : Nat) (o : ByteArray) (c : UInt8) (now : List Nat) (b : Nat) : List Nat := (List.range b).foldl (fun nx v => rowH K n o c now v nx K) (List.replicate n 0)
def stepC (K n : Nat) (o : ByteArray) (now : List Nat) (c : UInt8) : List Nat := allH K n o c now n
def countC (K n : Nat) (o : ByteArray) (u : List UInt8) : List Nat := u.foldl (stepC K n o) (List.replicate n 1)

theorem rowH_zero (K n : Nat) (o : ByteArray) (c : UInt8) (now : List Nat) (v : Nat) (nx : List Nat) : rowH K n o c now v nx 0 = nx := rfl
theorem rowH_succ (K n : Nat) (o : ByteArray) (c : UInt8) (now : List Nat) (v : Nat) (nx : List Nat) (a : Nat) : rowH K n o c now v nx (a + 1) = hitL K n o c now v (rowH K n o c now v nx a) a := by simp [rowH, List.range_succ]
theorem allH_zero (K n : Nat) (o : ByteArray) (c : UInt8) (now : List Nat) : allH K n o c now 0 = List.replicate n 0 := rfl
theorem allH_succ (K n : Nat) (o : ByteArray) (c : UInt8) (now : List Nat) (b : Nat) : allH K n o c now (b + 1) = rowH K n o c now b (allH K n o c now b) K := by simp [allH, List.range_succ]
theorem countC_snoc (K n : Nat) (o : ByteArray) (u : List UInt8) (c : UInt8) : countC K n o (u ++ [c]) = stepC K n o (countC K n o u) c := by simp [countC]

theorem hitL_length (K n : Nat) (o : ByteArray) (c : UInt8) (now : List Nat) (v : Nat) (nx : List Nat) (x : Nat) : (hitL K n o c now v nx x).length = nx.length := by unfold hitL; split <;> simp
theorem rowH_length (K n : Nat) (o : ByteArray) (c : UInt8) (now : List Nat) (v : Nat) (nx : List Nat) (a : Nat) : (rowH K n o c now v nx a).length = nx.length := by
  induction a with
  | zero => rfl
  | succ a ih => rw [rowH_succ, hitL_length, ih]
theorem allH_length (K n : Nat) (o : ByteArray) (c : UInt8) (now : List Nat) (b : Nat) : (allH K n o c now b).length = n := by
  induction b with
  | zero => simp [allH_zero]
  | succ b ih => rw [allH_succ, rowH_length, ih]
theorem countC_length (K n : Nat) (o : ByteArray) (u : List UInt8) : (countC K n o u).length = n := by
  refine snoc_induction (p := fun u => (countC K n o u).length = n) ?_ ?_ u
  · simp [countC]
  · intro u c _; rw [countC_snoc]; exact allH_length ..

/-- all entries are at most so great -/
def Bnd (M : Nat) (l : List Nat) : Prop := ∀ j, l.getD j 0 ≤ M
theorem Bnd.mono {M M' : Nat} {l : List Nat} (h : Bnd M l) (hm : M ≤ M') : Bnd M' l := fun j => Nat.le_trans (h j) hm
theorem Bnd.set {M : Nat} {l : List Nat} (h : Bnd M l) (i x : Nat) (hx : x ≤ M) : Bnd M (l.set i x) := by
  intro j
  rw [List.getD_eq_getElem?_getD, List.getElem?_set]
  have := h j
  rw [List.getD_eq_getElem?_getD] at this
  split
  · split
    · simpa using hx
    · simp
  · exact this
theorem Bnd.replicate (n x : Nat) : Bnd x (List.replicate n x) := by
  intro j
  rw [List.getD_eq_getElem?_getD, List.getElem?_replicate]
  split <;> simp
theorem hitL_bnd {K n : Nat} {o : ByteArray} {c : UInt8} {now : List Nat} {v : Nat} {nx : List Nat} {x M B : Nat} (h : Bnd M nx) (hb : Bnd B now) : Bnd (M + B) (hitL K n o c now v nx x) := by
  unfold hitL
  split
  · exact (h.mono (by omega)).set _ _ (Nat.add_le_add (h _) (hb _))
  · exact h.mono (by omega)
theorem rowH_bnd {K n : Nat} {o : ByteArray} {c : UInt8} {now : List Nat} {v : Nat} {nx : List Nat} {M B : Nat} (h : Bnd M nx) (hb : Bnd B now) : ∀ a, Bnd (M + a * B) (rowH K n o c now v nx a)
  | 0 => by simpa [rowH_zero] using h
  | a + 1 => by
    rw [rowH_succ, Nat.succ_mul, ← Nat.add_assoc]
    exact hitL_bnd (rowH_bnd h hb a) hb
theorem allH_bnd {K n : Nat} {o : ByteArray} {c : UInt8} {now : List Nat} {B : Nat} (hb : Bnd B now) : ∀ b, Bnd (b * (K * B)) (allH K n o c now b)
  | 0 => by rw [allH_zero]; exact (Bnd.replicate n 0).mono (by omega)
  | b + 1 => by
    rw [allH_succ, Nat.succ_mul]
    exact rowH_bnd (allH_bnd hb b) hb K
theorem countC_bnd {K n : Nat} (hnK : n * K ≤ 27) (o : ByteArray) (u : List UInt8) : Bnd (27 ^ u.length) (countC K n o u) := by
  refine snoc_induction (p := fun u => Bnd (27 ^ u.length) (countC K n o u)) ?_ ?_ u
  · simpa [countC] using Bnd.replicate n 1
  · intro u c ih
    rw [countC_snoc, List.length_append, List.length_singleton, Nat.pow_succ]
    refine (allH_bnd ih n).mono ?_
    rw [← Nat.mul_assoc, Nat.mul_comm (27 ^ u.length)]
    exact Nat.mul_le_mul_right _ hnK
theorem pow27_le {k : Nat} (h : k ≤ 8) : 27 ^ k ≤ 282429536481 := by
  have h1 : 27 ^ k ≤ 27 ^ 8 := Nat.pow_le_pow_right (by omega) h
  have h2 : (27 : Nat) ^ 8 = 282429536481 := by decide
  omega
/-- the sum of the first entries -/
def sumTo (l : List Nat) (k : Nat) : Nat := (l.take k).sum
theorem sumTo_succ (l : List Nat) (k : Nat) (h : k < l.length) : sumTo l (k + 1) = sumTo l k + l.getD k 0 := by
  unfold sumTo
  rw [List.take_succ_eq_append_getElem h, List.sum_append, List.getD_eq_getElem?_getD, List.getElem?_eq_getElem h]
  simp
theorem sumTo_all (l : List Nat) : sumTo l l.length = l.sum := by simp [sumTo]
theorem sumTo_le {M : Nat} {l : List Nat} (h : Bnd M l) : ∀ k, sumTo l k ≤ k * M
  | 0 => by simp [sumTo]
  | k + 1 => by
    have ih := sumTo_le h k
    by_cases hk : k < l.length
    · rw [sumTo_succ l k hk, Nat.succ_mul]
      exact Nat.add_le_add ih (h k)
    · have e : sumTo l (k + 1) = sumTo l k := by unfold sumTo; rw [List.take_of_length_le (by omega), List.take_of_length_le (by omega)]
      rw [e, Nat.succ_mul]; omega
end Go.Cm

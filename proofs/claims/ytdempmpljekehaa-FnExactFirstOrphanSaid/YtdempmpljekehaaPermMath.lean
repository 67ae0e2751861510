/- Permutive codes. No program in sight. -/
import Derived.Test.YtdempmpljekehaaApplyMath
namespace Go.Cm

/-- where the letter lies -/
def atL (K N i x : Nat) (r : Bool) : Nat := if r then x * N + i else i * K + x
/-- the letters, as numbers, of a group -/
def rowL (K N : Nat) (o : ByteArray) (r : Bool) (i a : Nat) : List Nat := (List.range a).map fun x => (o.data.toList.getD (atL K N i x r) 0).toNat - 97
theorem rowL_succ (K N : Nat) (o : ByteArray) (r : Bool) (i a : Nat) : rowL K N o r i (a + 1) = rowL K N o r i a ++ [(o.data.toList.getD (atL K N i a r) 0).toNat - 97] := by simp [rowL, List.range_succ]

def permB (K m : Nat) (o : ByteArray) (r : Bool) : Bool := (List.range (K ^ m)).all fun i => decide (rowL K (K ^ m) o r i K).Nodup

theorem nodup_snoc {l : List Nat} {x : Nat} : (l ++ [x]).Nodup ↔ l.Nodup ∧ x ∉ l := by
  simp [List.nodup_append]
  intro _
  constructor
  · intro h hx; exact h x hx rfl
  · intro h a ha e; subst e; exact h ha

theorem permB_bad {K m : Nat} {o : ByteArray} {r : Bool} {i a : Nat} (hi : i < K ^ m) (ha : a < K) (h : (o.data.toList.getD (atL K (K ^ m) i a r) 0).toNat - 97 ∈ rowL K (K ^ m) o r i a) : permB K m o r = false := by
  unfold permB
  rw [List.all_eq_false]
  refine ⟨i, by simpa using hi, ?_⟩
  simp only [decide_eq_true_eq]
  intro hn
  have h2 : ∀ b, a + 1 + b ≤ K → ¬ (rowL K (K ^ m) o r i (a + 1 + b)).Nodup := by
    intro b
    induction b with
    | zero => intro _ hn; rw [Nat.add_zero, rowL_succ, nodup_snoc] at hn; exact hn.2 h
    | succ b ih => intro hb hn; rw [← Nat.add_assoc, rowL_succ, nodup_snoc] at hn; exact ih (by omega) hn.1
  have := h2 (K - (a + 1)) (by omega)
  rw [show a + 1 + (K - (a + 1)) = K by omega] at this
  exact this hn

theorem permB_all {K m : Nat} {o : ByteArray} {r : Bool} (h : ∀ i, i < K ^ m → (rowL K (K ^ m) o r i K).Nodup) : permB K m o r = true := by
  unfold permB
  rw [List.all_eq_true]
  intro i hi
  simpa using h i (by simpa using hi)

theorem atL_lt {K m i x : Nat} {r : Bool} (hi : i < K ^ m) (hx : x < K) : atL K (K ^ m) i x r < K ^ (m + 1) := by
  unfold atL
  rw [Nat.pow_succ]
  split
  · have : (x + 1) * K ^ m ≤ K * K ^ m := Nat.mul_le_mul_right _ hx
    rw [Nat.succ_mul, Nat.mul_comm K] at this
    omega
  · have : (i + 1) * K ≤ K ^ m * K := Nat.mul_le_mul_right _ hi
    rw [Nat.succ_mul] at this
    omega
end Go.Cm

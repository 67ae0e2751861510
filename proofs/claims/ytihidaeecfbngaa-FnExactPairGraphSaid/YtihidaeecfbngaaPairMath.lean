/- Plain laws: the graph of pairs. No dump is imported. -/
import Derived.Test.YtihidaeecfbngaaJoinMath
namespace Go.Mx
open Go

def pairF (a b : List (List Int)) (p q : Nat) : Int := at2 a (p / b.length) (q / b.length) * at2 b (p % b.length) (q % b.length)
def pairM (a b : List (List Int)) : List (List Int) := tabF (a.length * b.length) (a.length * b.length) (pairF a b)
def pairO (a b : List (List Int)) : Option (List (List Int)) := if (isMat a && isMat b) = true ∧ isMat (pairM a b) = true then some (pairM a b) else none
theorem pairO_no {a b : List (List Int)} (h : (isMat a && isMat b) = false) : pairO a b = none := by unfold pairO; rw [h]; simp
theorem pairO_bad {a b : List (List Int)} (h : isMat (pairM a b) = false) : pairO a b = none := by unfold pairO; rw [h]; simp
theorem pairO_long {a b : List (List Int)} (h : ¬ a.length * b.length ≤ 9) : pairO a b = none := pairO_bad (isMat_long (by unfold pairM; rw [tabF_length]; exact h))
theorem pairO_yes {a b : List (List Int)} (h : (isMat a && isMat b) = true) (h2 : isMat (pairM a b) = true) : pairO a b = some (pairM a b) := by unfold pairO; rw [if_pos ⟨h, h2⟩]
/-- the pairs done before (i, j, k, l) -/
def pairD (n i j k l p q : Nat) : Bool := decide (p / n < i) || (decide (p / n = i) && (decide (q / n < j) || (decide (q / n = j) && doneB k l (p % n) (q % n))))
theorem div_add {n k : Nat} (h : k < n) (i : Nat) : (i * n + k) / n = i := by
  rw [Nat.mul_comm, Nat.mul_add_div (by omega), Nat.div_eq_of_lt h, Nat.add_zero]
theorem mod_add {n k : Nat} (h : k < n) (i : Nat) : (i * n + k) % n = k := by
  rw [Nat.mul_comm, Nat.mul_add_mod, Nat.mod_eq_of_lt h]
theorem div_mod_iff {n k : Nat} (h : k < n) (i p : Nat) : p = i * n + k ↔ p / n = i ∧ p % n = k := by
  constructor
  · rintro rfl; exact ⟨div_add h i, mod_add h i⟩
  · rintro ⟨h1, h2⟩
    have := Nat.div_add_mod p n
    rw [h1, h2, Nat.mul_comm] at this
    exact this.symm
theorem pairD_succ {n i j k l p q : Nat} (hk : k < n) (hl : l < n) : pairD n i j k (l + 1) p q = (pairD n i j k l p q || (decide (p = i * n + k) && decide (q = j * n + l))) := by
  have h1 := div_mod_iff hk i p
  have h2 := div_mod_iff hl j q
  unfold pairD
  rw [doneB_succ, Bool.eq_iff_iff]
  simp only [Bool.or_eq_true, Bool.and_eq_true, decide_eq_true_eq, h1, h2]
  constructor
  · rintro (h | ⟨h, (h' | ⟨h', (h'' | ⟨e1, e2⟩)⟩)⟩)
    · exact .inl (.inl h)
    · exact .inl (.inr ⟨h, .inl h'⟩)
    · exact .inl (.inr ⟨h, .inr ⟨h', h''⟩⟩)
    · exact .inr ⟨⟨h, e1⟩, ⟨h', e2⟩⟩
  · rintro ((h | ⟨h, (h' | ⟨h', h''⟩)⟩) | ⟨⟨h, e1⟩, ⟨h', e2⟩⟩)
    · exact .inl h
    · exact .inr ⟨h, .inl h'⟩
    · exact .inr ⟨h, .inr ⟨h', .inl h''⟩⟩
    · exact .inr ⟨h, .inr ⟨h', .inr ⟨e1, e2⟩⟩⟩
theorem pairF_at {a b : List (List Int)} {i j k l : Nat} (hk : k < b.length) (hl : l < b.length) : pairF a b (i * b.length + k) (j * b.length + l) = at2 a i j * at2 b k l := by
  unfold pairF; rw [div_add hk, div_add hl, mod_add hk, mod_add hl]
theorem pair_lt {n m i k : Nat} (hi : i < m) (hk : k < n) : i * n + k < m * n := by
  have h1 : i * n + n ≤ m * n := by
    have := Nat.mul_le_mul_right n (show i + 1 ≤ m by omega)
    rwa [Nat.add_mul, Nat.one_mul] at this
  omega
theorem pair_set {N n m i j k l : Nat} {F : Nat → Nat → Int} (hN : N = m * n) (hi : i < m) (hk : k < n) (hl : l < n) : setM (tabF N N (maskF (pairD n i j k l) F)) (i * n + k) (j * n + l) (F (i * n + k) (j * n + l)) = tabF N N (maskF (pairD n i j k (l + 1)) F) :=
  mask_set (by rw [hN]; exact pair_lt hi hk) fun _ _ _ _ => pairD_succ hk hl
theorem pair_l {N n i j k : Nat} {F : Nat → Nat → Int} (hn : 0 < n) : tabF N N (maskF (pairD n i j k n) F) = tabF N N (maskF (pairD n i j (k + 1) 0) F) := by
  apply mask_same
  intro p q _ _
  left
  have h := Nat.mod_lt q hn
  have h2 : doneB k n (p % n) (q % n) = doneB (k + 1) 0 (p % n) (q % n) := by rw [Bool.eq_iff_iff]; simp [doneB]; omega
  unfold pairD; rw [h2]
theorem pair_k {N n i j : Nat} {F : Nat → Nat → Int} (hn : 0 < n) : tabF N N (maskF (pairD n i j n 0) F) = tabF N N (maskF (pairD n i (j + 1) 0 0) F) := by
  apply mask_same
  intro p q _ _
  left
  have h := Nat.mod_lt p hn
  have h2 : doneB n 0 (p % n) (q % n) = true := by simp [doneB]; omega
  have h3 : doneB 0 0 (p % n) (q % n) = false := by simp [doneB]
  unfold pairD; rw [h2, h3, Bool.eq_iff_iff]; simp; omega
theorem pair_j {N n m i : Nat} {F : Nat → Nat → Int} (hN : N = m * n) (hn : 0 < n) : tabF N N (maskF (pairD n i m 0 0) F) = tabF N N (maskF (pairD n (i + 1) 0 0 0) F) := by
  apply mask_same
  intro p q _ hq
  left
  have h : q / n < m := by rw [Nat.div_lt_iff_lt_mul hn]; omega
  have h3 : doneB 0 0 (p % n) (q % n) = false := by simp [doneB]
  unfold pairD; rw [h3, Bool.eq_iff_iff]; simp; omega
theorem pair_zero {N n : Nat} {F : Nat → Nat → Int} : tabF N N (maskF (pairD n 0 0 0 0) F) = tabF N N (fun _ _ => 0) := by
  apply mask_none
  intro p q _ _
  left
  have h3 : doneB 0 0 (p % n) (q % n) = false := by simp [doneB]
  unfold pairD; rw [h3]; simp
theorem pair_all {N n m : Nat} {F : Nat → Nat → Int} (hN : N = m * n) (hn : 0 < n) : tabF N N (maskF (pairD n m 0 0 0) F) = tabF N N F := by
  apply mask_all
  intro p q hp _
  left
  have h : p / n < m := by rw [Nat.div_lt_iff_lt_mul hn]; omega
  unfold pairD; rw [decide_eq_true h]; rfl
theorem pairM_length (a b : List (List Int)) : (pairM a b).length = a.length * b.length := tabF_length _ _ _
end Go.Mx

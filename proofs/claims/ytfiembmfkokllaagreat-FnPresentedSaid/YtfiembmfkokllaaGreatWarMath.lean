/- Plain laws: paths between vertices, and the sets of vertices that reach each other. No dump is imported. -/
import Derived.Test.YtfiembmfkokllaaGreatPkB
namespace Go.Mx
open Go

/-- between which vertices there are paths by way of vertices below k -/
def warF (M : Nat → Nat → Bool) : Nat → Nat → Nat → Bool
  | 0, i, j => M i j
  | k + 1, i, j => warF M k i j || (warF M k i k && warF M k k j)
theorem war_to (M : Nat → Nat → Bool) (k i : Nat) : warF M (k + 1) i k = warF M k i k := by
  simp only [warF]; cases warF M k i k <;> simp
theorem war_from (M : Nat → Nat → Bool) (k j : Nat) : warF M (k + 1) k j = warF M k k j := by
  simp only [warF]; cases warF M k k j <;> simp
def b2i (b : Bool) : Int := if b = true then 1 else 0
/-- in place: stage k, the entries before (i, j) done -/
def warTo (M : Nat → Nat → Bool) (k i j p q : Nat) : Int := b2i (if doneB i j p q = true then warF M (k + 1) p q else warF M k p q)
theorem warTo_start (M : Nat → Nat → Bool) (n k : Nat) : tabF n n (warTo M k 0 0) = tabF n n fun p q => b2i (warF M k p q) := by
  apply tabF_congr
  intro p q _ _
  have h : doneB 0 0 p q = false := by simp [doneB]
  unfold warTo; rw [h]; rfl
theorem warTo_set (M : Nat → Nat → Bool) (n k i j : Nat) (hi : i < n) : setM (tabF n n (warTo M k i j)) i j (b2i (warF M (k + 1) i j)) = tabF n n (warTo M k i (j + 1)) := by
  rw [setM_tabF _ _ _ _ _ hi]
  apply tabF_congr
  intro p q _ _
  unfold updF warTo
  rw [doneB_succ]
  by_cases e : p = i ∧ q = j
  · obtain ⟨rfl, rfl⟩ := e
    simp
  · have e2 : (decide (p = i) && decide (q = j)) = false := by
      by_cases e1 : p = i
      · have : q ≠ j := fun e2 => e ⟨e1, e2⟩
        simp [this]
      · simp [e1]
    rw [if_neg e, e2, Bool.or_false]
theorem warTo_row (M : Nat → Nat → Bool) (n k i : Nat) : tabF n n (warTo M k i n) = tabF n n (warTo M k (i + 1) 0) := by
  apply tabF_congr
  intro p q _ hq
  have h : doneB i n p q = doneB (i + 1) 0 p q := by rw [Bool.eq_iff_iff]; simp [doneB]; omega
  unfold warTo; rw [h]
theorem warTo_next (M : Nat → Nat → Bool) (n k : Nat) : tabF n n (warTo M k n 0) = tabF n n (warTo M (k + 1) 0 0) := by
  rw [warTo_start]
  apply tabF_congr
  intro p q hp _
  have h : doneB n 0 p q = true := by simp [doneB]; omega
  unfold warTo; rw [h]; rfl
theorem warTo_at (M : Nat → Nat → Bool) (n k i j : Nat) (hi : i < n) (hj : j < n) : ((tabF n n (warTo M k i j)).getD i []).getD j 0 = b2i (warF M k i j) := by
  have h : doneB i j i j = false := by simp [doneB]
  rw [tabF_at _ _ _ _ _ hi hj]; unfold warTo; rw [h]; rfl
theorem warTo_to (M : Nat → Nat → Bool) (n k i j : Nat) (hi : i < n) (hk : k < n) : ((tabF n n (warTo M k i j)).getD i []).getD k 0 = b2i (warF M k i k) := by
  rw [tabF_at _ _ _ _ _ hi hk]; unfold warTo; rw [war_to]; split <;> rfl
theorem warTo_from (M : Nat → Nat → Bool) (n k i j : Nat) (hk : k < n) (hj : j < n) : ((tabF n n (warTo M k i j)).getD k []).getD j 0 = b2i (warF M k k j) := by
  rw [tabF_at _ _ _ _ _ hk hj]; unfold warTo; rw [war_from]; split <;> rfl
def arcB (m : List (List Int)) (i j : Nat) : Bool := decide (0 < at2 m i j)
def reachB (m : List (List Int)) (i j : Nat) : Bool := warF (arcB m) m.length i j
def reachM (m : List (List Int)) : List (List Int) := tabF m.length m.length fun i j => b2i (reachB m i j)

/-! ### components -/
/-! ### a component is light -/
end Go.Mx

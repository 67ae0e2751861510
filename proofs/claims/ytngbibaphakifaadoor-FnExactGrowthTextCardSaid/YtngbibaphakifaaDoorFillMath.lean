/- Plain laws: tables that are filled entry by entry; products and powers; arcs. No dump is imported. -/
import Derived.Test.YtngbibaphakifaaDoorTabMath
namespace Go.Mx
open Go

/-- the entries done so far -/
def maskF (D : Nat → Nat → Bool) (F : Nat → Nat → Int) : Nat → Nat → Int := fun p q => if D p q = true then F p q else 0
theorem mask_set {R C : Nat} {D D' : Nat → Nat → Bool} {F : Nat → Nat → Int} {i j : Nat} (hi : i < R) (h : ∀ p q, p < R → q < C → D' p q = (D p q || (decide (p = i) && decide (q = j)))) : setM (tabF R C (maskF D F)) i j (F i j) = tabF R C (maskF D' F) := by
  rw [setM_tabF _ _ _ _ _ hi]
  apply tabF_congr
  intro p q hp hq
  unfold updF maskF
  rw [h p q hp hq]
  by_cases e : p = i ∧ q = j
  · obtain ⟨rfl, rfl⟩ := e; simp
  · rw [if_neg e]
    by_cases e1 : p = i
    · have : q ≠ j := fun e2 => e ⟨e1, e2⟩
      simp [this]
    · simp [e1]
theorem mask_same {R C : Nat} {D D' : Nat → Nat → Bool} {F : Nat → Nat → Int} (h : ∀ p q, p < R → q < C → D p q = D' p q ∨ F p q = 0) : tabF R C (maskF D F) = tabF R C (maskF D' F) := by
  apply tabF_congr
  intro p q hp hq
  unfold maskF
  rcases h p q hp hq with h | h
  · rw [h]
  · rw [h]; split <;> split <;> rfl
theorem mask_none {R C : Nat} {D : Nat → Nat → Bool} {F : Nat → Nat → Int} (h : ∀ p q, p < R → q < C → D p q = false ∨ F p q = 0) : tabF R C (maskF D F) = tabF R C (fun _ _ => 0) := by
  apply tabF_congr
  intro p q hp hq
  unfold maskF
  rcases h p q hp hq with h | h <;> simp [h]
theorem mask_all {R C : Nat} {D : Nat → Nat → Bool} {F : Nat → Nat → Int} (h : ∀ p q, p < R → q < C → D p q = true ∨ F p q = 0) : tabF R C (maskF D F) = tabF R C F := by
  apply tabF_congr
  intro p q hp hq
  unfold maskF
  rcases h p q hp hq with h | h <;> simp [h]

/-- row by row -/
def doneB (i j p q : Nat) : Bool := decide (p < i) || (decide (p = i) && decide (q < j))
theorem doneB_succ (i j p q : Nat) : doneB i (j + 1) p q = (doneB i j p q || (decide (p = i) && decide (q = j))) := by
  rw [Bool.eq_iff_iff]; simp [doneB]; omega
theorem fill_set {R C : Nat} {F : Nat → Nat → Int} {i j : Nat} (hi : i < R) : setM (tabF R C (maskF (doneB i j) F)) i j (F i j) = tabF R C (maskF (doneB i (j + 1)) F) :=
  mask_set hi fun p q _ _ => doneB_succ i j p q
theorem fill_row {R C c d : Nat} {F : Nat → Nat → Int} {i : Nat} (h : ∀ q, c ≤ q → q < C → F i q = 0) (h2 : ∀ q, q < d → F (i + 1) q = 0) : tabF R C (maskF (doneB i c) F) = tabF R C (maskF (doneB (i + 1) d) F) := by
  apply mask_same
  intro p q hp hq
  by_cases h1 : p = i ∧ c ≤ q
  · obtain ⟨rfl, h1⟩ := h1
    exact .inr (h q h1 hq)
  · by_cases h3 : p = i + 1 ∧ q < d
    · obtain ⟨rfl, h3⟩ := h3
      exact .inr (h2 q h3)
    · left; rw [Bool.eq_iff_iff]; simp [doneB]; omega
theorem fill_zero {R C d : Nat} {F : Nat → Nat → Int} {i : Nat} (h : ∀ p q, p < i → q < C → F p q = 0) (h2 : ∀ q, q < d → F i q = 0) : tabF R C (maskF (doneB i d) F) = tabF R C (fun _ _ => 0) := by
  apply mask_none
  intro p q hp hq
  by_cases h1 : p < i
  · exact .inr (h p q h1 hq)
  · by_cases h3 : p = i ∧ q < d
    · obtain ⟨rfl, h3⟩ := h3
      exact .inr (h2 q h3)
    · left; simp [doneB]; omega
theorem fill_all {R C i : Nat} {F : Nat → Nat → Int} (h : R ≤ i) (j : Nat) : tabF R C (maskF (doneB i j) F) = tabF R C F := by
  apply mask_all
  intro p q hp hq
  left; simp [doneB]; omega
theorem mask_at_not {R C : Nat} {D : Nat → Nat → Bool} {F : Nat → Nat → Int} {i j : Nat} (hi : i < R) (hj : j < C) (h : D i j = false) : ((tabF R C (maskF D F)).getD i []).getD j 0 = 0 := by
  rw [tabF_at _ _ _ _ _ hi hj]; simp [maskF, h]

/-! ### products -/
def dotTo (F G : Nat → Nat → Int) (k i j : Nat) : Int := ((List.range k).map fun x => F i x * G x j).sum
theorem dotTo_zero (F G : Nat → Nat → Int) (i j : Nat) : dotTo F G 0 i j = 0 := rfl
theorem dotTo_succ (F G : Nat → Nat → Int) (k i j : Nat) : dotTo F G (k + 1) i j = dotTo F G k i j + F i k * G k j := by
  unfold dotTo
  rw [List.range_succ, List.map_append, List.sum_append]
  simp
theorem dotTo_bd {F G : Nat → Nat → Int} (hF : ∀ i j, 0 ≤ F i j ∧ F i j ≤ 1000000) (hG : ∀ i j, 0 ≤ G i j ∧ G i j ≤ 1000000) (i j : Nat) : ∀ k : Nat, 0 ≤ dotTo F G k i j ∧ dotTo F G k i j ≤ (k : Int) * 1000000000000
  | 0 => by simp [dotTo_zero]
  | k + 1 => by
    have ih := dotTo_bd hF hG i j k
    have h1 := mul_bd (a := 1000000) (b := 1000000) (by have := hF i k; omega) (hF i k).2 (by have := hG k j; omega) (hG k j).2
    have h2 : 0 ≤ F i k * G k j := Int.mul_nonneg (hF i k).1 (hG k j).1
    rw [dotTo_succ]
    omega
def mulM (n : Nat) (a b : List (List Int)) : List (List Int) := tabF n n (dotTo (at2 a) (at2 b) n)
def unitM (n : Nat) : List (List Int) := tabF n n fun i j => if i = j then 1 else 0
def mulO (a b : List (List Int)) : Option (List (List Int)) := if isMat a = true ∧ isMat b = true ∧ a.length = b.length ∧ isMat (mulM b.length a b) = true then some (mulM b.length a b) else none
def powM (m : List (List Int)) : Nat → Option (List (List Int))
  | 0 => some (unitM m.length)
  | k + 1 => (powM m k).bind fun x => mulO x m
/-- a row of a product, on the way -/
def lineTo (F G : Nat → Nat → Int) (n i k j : Nat) : List Int := rowF n fun q => dotTo F G (if q < j then k + 1 else k) i q
theorem lineTo_zero (F G : Nat → Nat → Int) (n i : Nat) : lineTo F G n i 0 0 = List.replicate n 0 := by
  rw [← rowF_zero]; exact rowF_congr fun q _ => by simp [dotTo_zero]
theorem lineTo_set (F G : Nat → Nat → Int) (n i k j : Nat) : (lineTo F G n i k j).set j (dotTo F G k i j + F i k * G k j) = lineTo F G n i k (j + 1) := by
  unfold lineTo
  rw [rowF_set]
  apply rowF_congr
  intro q hq
  unfold updR
  by_cases e : q = j
  · subst e; rw [if_pos rfl, if_pos (by omega), dotTo_succ]
  · rw [if_neg e]
    show dotTo F G (if q < j then k + 1 else k) i q = dotTo F G (if q < j + 1 then k + 1 else k) i q
    by_cases h : q < j
    · rw [if_pos h, if_pos (by omega)]
    · rw [if_neg h, if_neg (by omega)]
theorem lineTo_at (F G : Nat → Nat → Int) (n i k j : Nat) (h : j < n) : (lineTo F G n i k j).getD j 0 = dotTo F G k i j := by
  unfold lineTo; rw [rowF_at _ _ _ h, if_neg (by omega)]
theorem lineTo_next (F G : Nat → Nat → Int) (n i k : Nat) : lineTo F G n i k n = lineTo F G n i (k + 1) 0 := by
  unfold lineTo
  exact rowF_congr fun q hq => by rw [if_pos hq, if_neg (by omega)]
theorem lineTo_length (F G : Nat → Nat → Int) (n i k j : Nat) : (lineTo F G n i k j).length = n := rowF_length _ _
theorem lineTo_done (F G : Nat → Nat → Int) (n i k : Nat) : lineTo F G n i k 0 = rowF n (dotTo F G k i) := rowF_congr fun q _ => by rw [if_neg (by omega)]

/-- a table of products, on the way -/
def cellTo (F G : Nat → Nat → Int) (n i j k : Nat) : Nat → Nat → Int := fun p q => if doneB i j p q = true then dotTo F G n p q else if p = i ∧ q = j then dotTo F G k p q else 0
theorem cellTo_zero (F G : Nat → Nat → Int) (n R C : Nat) : tabF R C (cellTo F G n 0 0 0) = tabF R C (fun _ _ => 0) := by
  apply tabF_congr
  intro p q _ _
  have h : doneB 0 0 p q = false := by simp [doneB]
  unfold cellTo
  rw [h]
  simp [dotTo_zero]
theorem cellTo_set (F G : Nat → Nat → Int) (n R C i j k : Nat) (hi : i < R) : setM (tabF R C (cellTo F G n i j k)) i j (dotTo F G k i j + F i k * G k j) = tabF R C (cellTo F G n i j (k + 1)) := by
  rw [setM_tabF _ _ _ _ _ hi]
  apply tabF_congr
  intro p q _ _
  unfold updF cellTo
  by_cases e : p = i ∧ q = j
  · obtain ⟨rfl, rfl⟩ := e
    have h : doneB p q p q = false := by simp [doneB]
    rw [h]; simp [dotTo_succ]
  · rw [if_neg e, if_neg e, if_neg e]
theorem cellTo_at (F G : Nat → Nat → Int) (n R C i j k : Nat) (hi : i < R) (hj : j < C) : ((tabF R C (cellTo F G n i j k)).getD i []).getD j 0 = dotTo F G k i j := by
  have h : doneB i j i j = false := by simp [doneB]
  rw [tabF_at _ _ _ _ _ hi hj]
  unfold cellTo
  rw [h]; simp
theorem cellTo_col (F G : Nat → Nat → Int) (n R C i j : Nat) : tabF R C (cellTo F G n i j n) = tabF R C (cellTo F G n i (j + 1) 0) := by
  apply tabF_congr
  intro p q _ _
  unfold cellTo
  rw [doneB_succ]
  by_cases e : p = i ∧ q = j
  · obtain ⟨rfl, rfl⟩ := e
    simp
  · have e2 : (decide (p = i) && decide (q = j)) = false := by
      by_cases e1 : p = i
      · have : q ≠ j := fun e2 => e ⟨e1, e2⟩
        simp [this]
      · simp [e1]
    rw [if_neg e, e2, Bool.or_false]
    split
    · rfl
    · split
      · simp [dotTo_zero]
      · rfl
theorem cellTo_row (F G : Nat → Nat → Int) (n R C i : Nat) : tabF R C (cellTo F G n i C 0) = tabF R C (cellTo F G n (i + 1) 0 0) := by
  apply tabF_congr
  intro p q _ hq
  have h : doneB i C p q = doneB (i + 1) 0 p q := by rw [Bool.eq_iff_iff]; simp [doneB]; omega
  unfold cellTo
  rw [h]
  simp [dotTo_zero]
theorem cellTo_all (F G : Nat → Nat → Int) (n R C : Nat) : tabF R C (cellTo F G n R 0 0) = tabF R C (dotTo F G n) := by
  apply tabF_congr
  intro p q hp _
  have h : doneB R 0 p q = true := by simp [doneB]; omega
  unfold cellTo
  rw [h]; rfl
end Go.Mx

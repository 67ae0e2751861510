/- Plain laws on tables given by a function of row and column. No dump is imported. -/
import Derived.Test.YtngbibaphakifaaDoorMatMath
namespace Go.Mx
open Go

def rowF (C : Nat) (f : Nat → Int) : List Int := (List.range C).map f
def tabF (R C : Nat) (F : Nat → Nat → Int) : List (List Int) := (List.range R).map fun x => rowF C (F x)
/-- the entry of a table -/
def at2 (m : List (List Int)) (i j : Nat) : Int := (m.getD i []).getD j 0
/-- a table's entries with one turned -/
def updF (F : Nat → Nat → Int) (i j : Nat) (v : Int) : Nat → Nat → Int := fun x y => if x = i ∧ y = j then v else F x y
def updR (f : Nat → Int) (j : Nat) (v : Int) : Nat → Int := fun y => if y = j then v else f y

theorem rowF_length (C : Nat) (f : Nat → Int) : (rowF C f).length = C := by simp [rowF]
theorem rowF_at (C : Nat) (f : Nat → Int) (j : Nat) (h : j < C) : (rowF C f).getD j 0 = f j := by simp [rowF, List.getD_eq_getElem?_getD, h]
theorem rowF_congr {C : Nat} {f f' : Nat → Int} (h : ∀ j, j < C → f j = f' j) : rowF C f = rowF C f' := by
  unfold rowF
  apply List.map_congr_left
  intro j hj
  exact h j (List.mem_range.1 hj)
theorem rowF_set (C : Nat) (f : Nat → Int) (j : Nat) (v : Int) : (rowF C f).set j v = rowF C (updR f j v) := by
  apply List.ext_getElem
  · simp [rowF]
  · intro i h1 h2
    simp only [List.length_set, rowF_length] at h1
    rw [List.getElem_set]
    simp only [rowF, List.getElem_map, List.getElem_range, updR]
    by_cases e : j = i
    · subst e; simp
    · rw [if_neg e, if_neg (by omega)]
theorem rowF_zero (C : Nat) : rowF C (fun _ => 0) = List.replicate C 0 := by
  apply List.ext_getElem
  · simp [rowF]
  · intro i h1 h2; simp [rowF]
theorem rowF_succ (C : Nat) (f : Nat → Int) : rowF (C + 1) f = rowF C f ++ [f C] := by simp [rowF, List.range_succ]
theorem rowF_of (r : List Int) : rowF r.length (fun j => r.getD j 0) = r := by
  apply List.ext_getElem
  · simp [rowF]
  · intro i h1 h2; simp [rowF, List.getD_eq_getElem?_getD, List.getElem?_eq_getElem h2]

theorem tabF_length (R C : Nat) (F : Nat → Nat → Int) : (tabF R C F).length = R := by simp [tabF]
theorem tabF_row (R C : Nat) (F : Nat → Nat → Int) (i : Nat) (h : i < R) : (tabF R C F).getD i [] = rowF C (F i) := by simp [tabF, List.getD_eq_getElem?_getD, h]
theorem tabF_at (R C : Nat) (F : Nat → Nat → Int) (i j : Nat) (hi : i < R) (hj : j < C) : ((tabF R C F).getD i []).getD j 0 = F i j := by rw [tabF_row R C F i hi, rowF_at C _ j hj]
theorem tabF_congr {R C : Nat} {F F' : Nat → Nat → Int} (h : ∀ i j, i < R → j < C → F i j = F' i j) : tabF R C F = tabF R C F' := by
  unfold tabF
  apply List.map_congr_left
  intro i hi
  exact rowF_congr fun j hj => h i j (List.mem_range.1 hi) hj
theorem tabF_succ (R C : Nat) (F : Nat → Nat → Int) : tabF (R + 1) C F = tabF R C F ++ [rowF C (F R)] := by simp [tabF, List.range_succ]
theorem tabF_zeros (R C : Nat) : tabF R C (fun _ _ => 0) = List.replicate R (List.replicate C 0) := by
  apply List.ext_getElem
  · simp [tabF]
  · intro i h1 h2; simp [tabF, rowF_zero]
theorem tabF_set_row (R C : Nat) (F : Nat → Nat → Int) (i : Nat) (f : Nat → Int) : (tabF R C F).set i (rowF C f) = tabF R C (fun x => if x = i then f else F x) := by
  apply List.ext_getElem
  · simp [tabF]
  · intro k h1 h2
    simp only [List.length_set, tabF_length] at h1
    rw [List.getElem_set]
    simp only [tabF, List.getElem_map, List.getElem_range]
    by_cases e : i = k
    · subst e; simp
    · rw [if_neg e, if_neg (by omega)]
theorem setM_tabF (R C : Nat) (F : Nat → Nat → Int) (i j : Nat) (hi : i < R) (v : Int) : setM (tabF R C F) i j v = tabF R C (updF F i j v) := by
  unfold setM
  rw [tabF_row R C F i hi, rowF_set, tabF_set_row]
  apply tabF_congr
  intro x y _ _
  unfold updF updR
  by_cases e : x = i
  · subst e; simp
  · simp [e]
theorem tabF_of {n k : Nat} {m : List (List Int)} (hl : m.length = n) (hr : ∀ i, i < n → (m.getD i []).length = k) : tabF n k (at2 m) = m := by
  apply ext_getD
  · rw [tabF_length, hl]
  · intro i hi
    rw [tabF_length] at hi
    rw [tabF_row _ _ _ _ hi, ← hr i hi]
    exact rowF_of _
theorem IsM.tab {n : Nat} {m : List (List Int)} (h : IsM n m) : tabF n n (at2 m) = m := tabF_of h.len h.row
theorem tabF_isMat {n : Nat} {F : Nat → Nat → Int} (h1 : 1 ≤ n) (h9 : n ≤ 9) (h : ∀ i j, i < n → j < n → 0 ≤ F i j ∧ F i j ≤ 1000000) : isMat (tabF n n F) = true := by
  simp only [isMat, Bool.and_eq_true, decide_eq_true_eq, List.all_eq_true, tabF_length]
  refine ⟨⟨h1, h9⟩, fun r hr => ?_⟩
  obtain ⟨i, hi, rfl⟩ := List.mem_map.1 hr
  have hi := List.mem_range.1 hi
  simp only [rowOk, rowF_length, Bool.and_eq_true, decide_eq_true_eq, List.all_eq_true]
  refine ⟨trivial, fun x hx => ?_⟩
  obtain ⟨j, hj, rfl⟩ := List.mem_map.1 hx
  exact h i j hi (List.mem_range.1 hj)
theorem tabF_notMat {n : Nat} {F : Nat → Nat → Int} {i j : Nat} (hi : i < n) (hj : j < n) (h : ¬ (0 ≤ F i j ∧ F i j ≤ 1000000)) : isMat (tabF n n F) = false := by
  have hrow : rowOk n (rowF n (F i)) = false := by
    unfold rowOk
    have : (rowF n (F i)).all (fun x => decide (0 ≤ x ∧ x ≤ 1000000)) = false := by
      refine all_bad (k := j) 0 (by rw [rowF_length]; exact hj) ?_
      rw [rowF_at _ _ _ hj]
      exact decide_eq_false h
    rw [this, Bool.and_false]
  refine isMat_row (k := i) (by rw [tabF_length]; exact hi) ?_
  rw [tabF_length, tabF_row _ _ _ _ hi]
  exact hrow
end Go.Mx

/- Plain laws: square tables of bounded numbers. No dump is imported. -/
import Derived.Test.YtngbibaphakifaaDoorMatMath
namespace Go.Mx
open Go
def sqRow (n : Nat) (r : List Int) : Bool := decide (r.length = n) && r.all fun x => decide (-10000 ≤ x ∧ x ≤ 10000)
def sqOk (t : List (List Int)) : Bool := t.all (sqRow t.length) && decide (t.length ≤ 4)
theorem sqRow_len {n : Nat} {r : List Int} (h : ¬ r.length = n) : sqRow n r = false := by simp [sqRow, h]
theorem sqRow_of {n : Nat} {r : List Int} (h : r.length = n) : sqRow n r = r.all fun x => decide (-10000 ≤ x ∧ x ≤ 10000) := by simp [sqRow, h]
theorem sqRow_bad {n : Nat} {r : List Int} {j : Nat} (hj : j < r.length) (h : r.getD j 0 < -10000 ∨ 10000 < r.getD j 0) : sqRow n r = false := by
  unfold sqRow
  rw [all_bad (p := fun x => decide (-10000 ≤ x ∧ x ≤ 10000)) 0 hj (by simp only [decide_eq_false_iff_not]; omega), Bool.and_false]
theorem sqOk_long {t : List (List Int)} (h : ¬ t.length ≤ 4) : sqOk t = false := by unfold sqOk; rw [decide_eq_false h, Bool.and_false]
theorem sqOk_row {t : List (List Int)} {k : Nat} (hk : k < t.length) (h : sqRow t.length (t.getD k []) = false) : sqOk t = false := by
  unfold sqOk; rw [all_bad (p := sqRow t.length) [] hk h, Bool.false_and]
theorem sqOk_all {t : List (List Int)} (h2 : (t.take t.length).all (sqRow t.length) = true) : sqOk t = decide (t.length ≤ 4) := by unfold sqOk; rw [all_done h2, Bool.true_and]
theorem sqOk_yes {t : List (List Int)} (h : sqOk t = true) : Sq t.length 10000 t ∧ t.length ≤ 4 := by
  simp only [sqOk, Bool.and_eq_true, decide_eq_true_eq, List.all_eq_true, sqRow] at h
  obtain ⟨h3, h2⟩ := h
  have hx : ∀ i j, -10000 ≤ (t.getD i []).getD j 0 ∧ (t.getD i []).getD j 0 ≤ 10000 := by
    intro i j
    rcases getD_mem_or t i [] with hm | hm
    · rcases getD_mem_or (t.getD i []) j 0 with hj | hj
      · exact (h3 _ hm).2 _ hj
      · rw [hj]; omega
    · rw [hm]; simp
  refine ⟨⟨rfl, fun i hi => ?_, fun i j => (hx i j).1, fun i j => (hx i j).2⟩, h2⟩
  have hm : t.getD i [] ∈ t := by rw [List.getD_eq_getElem?_getD, List.getElem?_eq_getElem hi]; exact List.getElem_mem hi
  exact (h3 _ hm).1
/-- the determinant, or 0 -/
def detV (t : List (List Int)) : Int := if sqOk t = true then detL t.length t else 0
theorem detV_yes {t : List (List Int)} (h : sqOk t = true) : detV t = detL t.length t := if_pos h
theorem detV_no {t : List (List Int)} (h : sqOk t = false) : detV t = 0 := if_neg (by simp [h])
theorem isSm_sq {m : List (List Int)} (h : isSm m = true) : Sq m.length 10000 m ∧ m.length ≤ 4 := by
  obtain ⟨h1, h2, h3⟩ := isSm_yes h
  exact ⟨⟨h1.len, h1.row, fun i j => by have := h1.low i j; omega, fun i j => by have := h3 i j; omega⟩, h2⟩
end Go.Mx

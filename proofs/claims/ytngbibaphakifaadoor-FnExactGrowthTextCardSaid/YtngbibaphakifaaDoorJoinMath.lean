/- Plain laws: two graphs joined, and their pairs. No dump is imported. -/
import Derived.Test.YtngbibaphakifaaDoorFillMath
import Derived.Test.YtngbibaphakifaaDoorOwn4
namespace Go.Mx
open Go

theorem tabF_row_length {R C : Nat} {F : Nat → Nat → Int} {i : Nat} (h : i < R) : ((tabF R C F).getD i []).length = C := by rw [tabF_row _ _ _ _ h, rowF_length]
/-- a whole row at once -/
theorem fill_whole {R C : Nat} {F : Nat → Nat → Int} (i : Nat) : (tabF R C (maskF (doneB i 0) F)).set i (rowF C (F i)) = tabF R C (maskF (doneB (i + 1) 0) F) := by
  rw [tabF_set_row]
  apply tabF_congr
  intro p q _ _
  by_cases e : p = i
  · subst e
    have h : doneB (p + 1) 0 p q = true := by simp [doneB]
    simp [maskF, h]
  · have h : doneB (i + 1) 0 p q = doneB i 0 p q := by rw [Bool.eq_iff_iff]; simp [doneB]; omega
    simp only [if_neg e, maskF, h]

theorem fill_row_zero {R C : Nat} {F : Nat → Nat → Int} {i j : Nat} (h : i < R) (hz : ∀ q, q < j → F i q = 0) : (tabF R C (maskF (doneB i j) F)).getD i [] = rowF C fun _ => 0 := by
  rw [tabF_row _ _ _ _ h]
  apply rowF_congr
  intro q _
  unfold maskF
  split
  · next h1 =>
    simp [doneB] at h1
    exact hz q h1
  · rfl
theorem fill_skip {R C d : Nat} {F : Nat → Nat → Int} {i : Nat} (h : ∀ q, q < d → F i q = 0) : tabF R C (maskF (doneB i 0) F) = tabF R C (maskF (doneB i d) F) := by
  apply mask_same
  intro p q _ _
  by_cases h3 : p = i ∧ q < d
  · obtain ⟨rfl, h3⟩ := h3
    exact .inr (h q h3)
  · left; rw [Bool.eq_iff_iff]; simp [doneB]; omega
def joinF (a b : List (List Int)) (p q : Nat) : Int := if p < a.length then (if q < a.length then at2 a p q else 0) else (if q < a.length then 0 else at2 b (p - a.length) (q - a.length))
def joinM (a b : List (List Int)) : List (List Int) := tabF (a.length + b.length) (a.length + b.length) (joinF a b)
def joinO (a b : List (List Int)) : Option (List (List Int)) := if (isMat a && isMat b) = true ∧ a.length + b.length ≤ 9 then some (joinM a b) else none
theorem joinO_no {a b : List (List Int)} (h : (isMat a && isMat b) = false) : joinO a b = none := by unfold joinO; rw [h]; simp
theorem joinO_long {a b : List (List Int)} (h : ¬ a.length + b.length ≤ 9) : joinO a b = none := by unfold joinO; rw [if_neg (by simp [h])]
theorem joinO_yes {a b : List (List Int)} (h : (isMat a && isMat b) = true) (h2 : a.length + b.length ≤ 9) : joinO a b = some (joinM a b) := by unfold joinO; rw [if_pos ⟨h, h2⟩]
theorem isMat_long {m : List (List Int)} (h : ¬ m.length ≤ 9) : isMat m = false := isMat_size (by omega)
theorem IsM.at2_bd {n : Nat} {m : List (List Int)} (h : IsM n m) (i j : Nat) : 0 ≤ at2 m i j ∧ at2 m i j ≤ 1000000 := ⟨h.low i j, h.high i j⟩
theorem joinF_bd {a b : List (List Int)} (ha : IsM a.length a) (hb : IsM b.length b) (p q : Nat) : 0 ≤ joinF a b p q ∧ joinF a b p q ≤ 1000000 := by
  unfold joinF
  split <;> split
  · exact ha.at2_bd _ _
  · omega
  · omega
  · exact hb.at2_bd _ _
theorem joinM_mat {a b : List (List Int)} (ha : IsM a.length a) (hb : IsM b.length b) : isMat (joinM a b) = decide (a.length + b.length ≤ 9) := by
  by_cases h : a.length + b.length ≤ 9
  · rw [decide_eq_true h]
    exact tabF_isMat (by have := ha.pos; omega) h fun i j _ _ => joinF_bd ha hb i j
  · rw [decide_eq_false h]
    exact isMat_long (by unfold joinM; rw [tabF_length]; exact h)
theorem splice_icells (xs ys : List Int) (off : Nat) : splice (icells xs) off (icells ys) = icells (splice xs off ys) := by
  simp [splice, icells]
theorem splice_at (xs ys : List Int) (off q : Nat) (h : off + ys.length ≤ xs.length) : (splice xs off ys)[q]? = if q < off then xs[q]? else if q < off + ys.length then ys[q - off]? else xs[q]? := by
  unfold splice
  have htl : (xs.take off).length = off := by rw [List.length_take]; omega
  by_cases h1 : q < off
  · rw [if_pos h1, List.getElem?_append_left (by omega), List.getElem?_take, if_pos h1]
  · rw [if_neg h1, List.getElem?_append_right (by omega), htl]
    by_cases h2 : q < off + ys.length
    · rw [if_pos h2, List.getElem?_append_left (by omega)]
    · rw [if_neg h2, List.getElem?_append_right (by omega), List.getElem?_drop]
      congr 1
      omega
theorem rowF_at? (C : Nat) (f : Nat → Int) (q : Nat) : (rowF C f)[q]? = if q < C then some (f q) else none := by
  by_cases h : q < C
  · simp [rowF, h]
  · rw [if_neg h, List.getElem?_eq_none (by rw [rowF_length]; omega)]
theorem row_at? {r : List Int} {q : Nat} (h : q < r.length) : r[q]? = some (r.getD q 0) := by
  rw [List.getD_eq_getElem?_getD, List.getElem?_eq_getElem h]; rfl
/-- the first rows: those of a -/
theorem join_row_a {a b : List (List Int)} {i : Nat} (ha : IsM a.length a) (hi : i < a.length) : splice (icells (rowF (a.length + b.length) fun _ => 0)) 0 (icells (a.getD i [])) = icells (rowF (a.length + b.length) (joinF a b i)) := by
  have hl := ha.row i hi
  rw [splice_icells]
  congr 1
  apply List.ext_getElem?
  intro q
  rw [splice_at _ _ _ _ (by rw [hl, rowF_length]; omega), rowF_at?, rowF_at?, hl]
  unfold joinF
  simp only [if_pos hi]
  by_cases hq : q < a.length
  · rw [if_neg (by omega), if_pos (by omega), if_pos (by omega), row_at? (by omega), if_pos hq]; rfl
  · rw [if_neg (by omega), if_neg (by omega), if_neg hq]
theorem join_row_b {a b : List (List Int)} {i : Nat} (hb : IsM b.length b) (hi : i < b.length) : splice (icells (rowF (a.length + b.length) fun _ => 0)) a.length (icells (b.getD i [])) = icells (rowF (a.length + b.length) (joinF a b (a.length + i))) := by
  have hl := hb.row i hi
  rw [splice_icells]
  congr 1
  apply List.ext_getElem?
  intro q
  rw [splice_at _ _ _ _ (by rw [hl, rowF_length]; omega), rowF_at?, rowF_at?, hl]
  unfold joinF
  simp only [if_neg (show ¬ a.length + i < a.length by omega)]
  by_cases hq : q < a.length
  · rw [if_pos hq, if_pos hq]
  · rw [if_neg hq, if_neg hq]
    by_cases hq2 : q < a.length + b.length
    · rw [if_pos hq2, if_pos hq2, row_at? (by omega), Nat.add_sub_cancel_left]; rfl
    · simp only [if_neg hq2]
theorem isMat_size9 {m : List (List Int)} (h : IsM m.length m) : sizeM m ≤ 81 := by
  have h9 := h.le
  have key : ∀ k, k ≤ m.length → sizeM (m.take k) ≤ 9 * k := by
    intro k
    induction k with
    | zero => intro _; simp [sizeM]
    | succ k ih =>
      intro hk
      have := ih (by omega)
      rw [sizeM_take m k (by omega), h.row k (by omega)]
      omega
  have := key m.length (Nat.le_refl _)
  rw [sizeM_all] at this
  omega
end Go.Mx

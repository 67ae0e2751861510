/- Plain laws on lists and tables of numbers: what the program and the reference both reckon. No dump is imported. -/
import Derived.Test.YtngbibaphakifaaDoorMat
namespace Go.Mx
open Go

/-! ### lists looked through from the front -/
theorem all_snoc {α : Type} (p : α → Bool) (l : List α) (k : Nat) (d : α) (hk : k < l.length) : (l.take (k + 1)).all p = ((l.take k).all p && p (l.getD k d)) := by
  rw [List.take_succ_eq_append_getElem hk, List.all_append]
  simp [List.getD_eq_getElem?_getD, List.getElem?_eq_getElem hk]
theorem all_next {α : Type} {p : α → Bool} {l : List α} {k : Nat} (d : α) (hk : k < l.length) (h : (l.take k).all p = true) (h2 : p (l.getD k d) = true) : (l.take (k + 1)).all p = true := by
  rw [all_snoc p l k d hk, h, h2]; rfl
theorem all_bad {α : Type} {p : α → Bool} {l : List α} {k : Nat} (d : α) (hk : k < l.length) (h : p (l.getD k d) = false) : l.all p = false := by
  rw [List.getD_eq_getElem?_getD, List.getElem?_eq_getElem hk] at h
  rw [List.all_eq_false]
  exact ⟨l[k], List.getElem_mem hk, by simpa using h⟩
theorem all_done {α : Type} {p : α → Bool} {l : List α} (h : (l.take l.length).all p = true) : l.all p = true := by rwa [List.take_length] at h
theorem all_at {α : Type} {p : α → Bool} {l : List α} (h : l.all p = true) (i : Nat) (d : α) (hi : i < l.length) : p (l.getD i d) = true := by
  rw [List.getD_eq_getElem?_getD, List.getElem?_eq_getElem hi]
  exact List.all_eq_true.1 h _ (List.getElem_mem hi)

/-! ### matrices -/
def rowOk (n : Nat) (r : List Int) : Bool := decide (r.length = n) && r.all fun x => decide (0 ≤ x ∧ x ≤ 1000000)
def isMat (m : List (List Int)) : Bool := decide (1 ≤ m.length ∧ m.length ≤ 9) && m.all (rowOk m.length)
def lowOk (r : List Int) : Bool := r.all fun x => decide (x ≤ 9)
def isSm (m : List (List Int)) : Bool := isMat m && (decide (m.length ≤ 4) && m.all lowOk)

/-- what is known of a matrix -/
structure IsM (n : Nat) (m : List (List Int)) : Prop where
  len : m.length = n
  pos : 1 ≤ n
  le : n ≤ 9
  row : ∀ i, i < n → (m.getD i []).length = n
  low : ∀ i j, 0 ≤ (m.getD i []).getD j 0
  high : ∀ i j, (m.getD i []).getD j 0 ≤ 1000000

theorem getD_mem_or {α : Type} (l : List α) (i : Nat) (d : α) : l.getD i d ∈ l ∨ l.getD i d = d := by
  by_cases h : i < l.length
  · left; rw [List.getD_eq_getElem?_getD, List.getElem?_eq_getElem h]; exact List.getElem_mem h
  · right; rw [List.getD_eq_getElem?_getD, List.getElem?_eq_none (by omega)]; rfl

theorem isMat_yes {m : List (List Int)} (h : isMat m = true) : IsM m.length m := by
  simp only [isMat, Bool.and_eq_true, decide_eq_true_eq, List.all_eq_true, rowOk] at h
  obtain ⟨⟨h1, h2⟩, h3⟩ := h
  have hx : ∀ i j, 0 ≤ (m.getD i []).getD j 0 ∧ (m.getD i []).getD j 0 ≤ 1000000 := by
    intro i j
    rcases getD_mem_or m i [] with hm | hm
    · rcases getD_mem_or (m.getD i []) j 0 with hj | hj
      · exact (h3 _ hm).2 _ hj
      · rw [hj]; omega
    · rw [hm]; simp
  refine ⟨rfl, h1, h2, fun i hi => ?_, fun i j => (hx i j).1, fun i j => (hx i j).2⟩
  have hm : m.getD i [] ∈ m := by rw [List.getD_eq_getElem?_getD, List.getElem?_eq_getElem hi]; exact List.getElem_mem hi
  exact (h3 _ hm).1
theorem isSm_yes {m : List (List Int)} (h : isSm m = true) : IsM m.length m ∧ m.length ≤ 4 ∧ ∀ i j, (m.getD i []).getD j 0 ≤ 9 := by
  simp only [isSm, Bool.and_eq_true, decide_eq_true_eq] at h
  obtain ⟨h1, h2, h3⟩ := h
  refine ⟨isMat_yes h1, h2, fun i j => ?_⟩
  simp only [List.all_eq_true, lowOk, decide_eq_true_eq] at h3
  rcases getD_mem_or m i [] with hm | hm
  · rcases getD_mem_or (m.getD i []) j 0 with hj | hj
    · exact h3 _ hm _ hj
    · rw [hj]; omega
  · rw [hm]; simp

theorem rowOk_len {n : Nat} {r : List Int} (h : ¬ r.length = n) : rowOk n r = false := by simp [rowOk, h]
theorem rowOk_of {n : Nat} {r : List Int} (h : r.length = n) : rowOk n r = r.all fun x => decide (0 ≤ x ∧ x ≤ 1000000) := by simp [rowOk, h]
theorem isMat_size {m : List (List Int)} (h : ¬ (1 ≤ m.length ∧ m.length ≤ 9)) : isMat m = false := by
  unfold isMat
  rw [decide_eq_false h]; rfl
theorem isMat_row {m : List (List Int)} {k : Nat} (hk : k < m.length) (h : rowOk m.length (m.getD k []) = false) : isMat m = false := by
  unfold isMat
  rw [all_bad (p := rowOk m.length) [] hk h, Bool.and_false]
theorem isMat_all {m : List (List Int)} (h : 1 ≤ m.length ∧ m.length ≤ 9) (h2 : (m.take m.length).all (rowOk m.length) = true) : isMat m = true := by
  unfold isMat
  rw [decide_eq_true h, all_done h2]; rfl

/-! ### sums -/
theorem sum_take_succ (xs : List Int) (k : Nat) (h : k < xs.length) : (xs.take (k + 1)).sum = (xs.take k).sum + xs.getD k 0 := by
  rw [List.take_succ_eq_append_getElem h, List.sum_append]
  simp [List.getD_eq_getElem?_getD, List.getElem?_eq_getElem h]
theorem sum_take_bd (xs : List Int) (b : Int) (hb : 0 ≤ b) (h : ∀ j, -b ≤ xs.getD j 0 ∧ xs.getD j 0 ≤ b) (k : Nat) : -(b * (k : Int)) ≤ (xs.take k).sum ∧ (xs.take k).sum ≤ b * (k : Int) := by
  induction k with
  | zero => simp
  | succ k ih =>
    by_cases hk : k < xs.length
    · rw [sum_take_succ xs k hk]
      have := h k
      have e : b * ((k + 1 : Nat) : Int) = b * (k : Int) + b := by rw [show ((k + 1 : Nat) : Int) = (k : Int) + 1 by omega, Int.mul_add, Int.mul_one]
      omega
    · rw [List.take_of_length_le (by omega)]
      rw [List.take_of_length_le (by omega)] at ih
      have e : b * ((k + 1 : Nat) : Int) = b * (k : Int) + b := by rw [show ((k + 1 : Nat) : Int) = (k : Int) + 1 by omega, Int.mul_add, Int.mul_one]
      omega
theorem sum_take_pos (xs : List Int) (b : Int) (hb : 0 ≤ b) (h : ∀ j, 0 ≤ xs.getD j 0 ∧ xs.getD j 0 ≤ b) (k : Nat) : 0 ≤ (xs.take k).sum ∧ (xs.take k).sum ≤ b * (k : Int) := by
  refine ⟨?_, (sum_take_bd xs b hb (fun j => by have := h j; omega) k).2⟩
  induction k with
  | zero => simp
  | succ k ih =>
    by_cases hk : k < xs.length
    · rw [sum_take_succ xs k hk]
      have := h k
      omega
    · rw [List.take_of_length_le (by omega)]
      rw [List.take_of_length_le (by omega)] at ih
      exact ih

/-! ### determinants -/
def sgn (j : Nat) : Int := if j % 2 = 0 then 1 else -1
theorem sgn_zero : sgn 0 = 1 := rfl
theorem sgn_succ (j : Nat) : sgn (j + 1) = - sgn j := by
  unfold sgn
  rcases Nat.mod_two_eq_zero_or_one j with h | h
  · rw [if_pos h, if_neg (show ¬ (j + 1) % 2 = 0 by omega)]
  · rw [if_neg (show ¬ j % 2 = 0 by omega), if_pos (show (j + 1) % 2 = 0 by omega)]; rfl
theorem sgn_or (j : Nat) : sgn j = 1 ∨ sgn j = -1 := by unfold sgn; split <;> simp
def minor (t : List (List Int)) (j : Nat) : List (List Int) := (t.drop 1).map fun r => r.eraseIdx j
/-- the determinant of a table of n rows -/
def detL : Nat → List (List Int) → Int
  | 0, _ => 1
  | n + 1, t => ((List.range (n + 1)).map fun j => sgn j * (t.getD 0 []).getD j 0 * detL n (minor t j)).sum
/-- .. up to a column -/
def detTo (n : Nat) (t : List (List Int)) (k : Nat) : Int := ((List.range k).map fun j => sgn j * (t.getD 0 []).getD j 0 * detL n (minor t j)).sum
theorem detTo_zero (n : Nat) (t : List (List Int)) : detTo n t 0 = 0 := rfl
theorem detTo_succ (n : Nat) (t : List (List Int)) (k : Nat) : detTo n t (k + 1) = detTo n t k + sgn k * (t.getD 0 []).getD k 0 * detL n (minor t k) := by
  unfold detTo
  rw [List.range_succ, List.map_append, List.sum_append]
  simp
theorem detTo_all (n : Nat) (t : List (List Int)) : detTo n t (n + 1) = detL (n + 1) t := rfl

/-- a square table of numbers within a bound -/
structure Sq (n : Nat) (b : Int) (t : List (List Int)) : Prop where
  len : t.length = n
  row : ∀ i, i < n → (t.getD i []).length = n
  low : ∀ i j, -b ≤ (t.getD i []).getD j 0
  high : ∀ i j, (t.getD i []).getD j 0 ≤ b

theorem minor_at (t : List (List Int)) (j i : Nat) : (minor t j).getD i [] = (t.getD (i + 1) []).eraseIdx j := by
  unfold minor
  rw [List.getD_eq_getElem?_getD, List.getElem?_map, List.getElem?_drop, List.getD_eq_getElem?_getD, Nat.add_comm 1 i]
  cases h : t[i + 1]? with
  | none => simp
  | some r => simp
theorem minor_length (t : List (List Int)) (j : Nat) : (minor t j).length = t.length - 1 := by simp [minor]
theorem eraseIdx_getD (r : List Int) (j k : Nat) : (r.eraseIdx j).getD k 0 = if k < j then r.getD k 0 else r.getD (k + 1) 0 := by
  rw [List.getD_eq_getElem?_getD, List.getElem?_eraseIdx]
  split <;> simp [List.getD_eq_getElem?_getD]
theorem Sq.minor {n : Nat} {b : Int} {t : List (List Int)} (h : Sq (n + 1) b t) (j : Nat) (hj : j < n + 1) : Sq n b (minor t j) := by
  refine ⟨by rw [minor_length, h.len]; rfl, fun i hi => ?_, fun i k => ?_, fun i k => ?_⟩
  · rw [minor_at, List.length_eraseIdx, h.row (i + 1) (by omega), if_pos hj]; rfl
  · rw [minor_at, eraseIdx_getD]; split
    · exact h.low _ _
    · exact h.low _ _
  · rw [minor_at, eraseIdx_getD]; split
    · exact h.high _ _
    · exact h.high _ _

/-- how great a determinant may be -/
def detB (b : Int) : Nat → Int
  | 0 => 1
  | n + 1 => ((n + 1 : Nat) : Int) * (b * detB b n)
theorem detB_nn {b : Int} (hb : 0 ≤ b) : ∀ n, 0 ≤ detB b n
  | 0 => by simp [detB]
  | n + 1 => by unfold detB; exact Int.mul_nonneg (by omega) (Int.mul_nonneg hb (detB_nn hb n))
theorem mul_bd {x y a b : Int} (hx1 : -a ≤ x) (hx2 : x ≤ a) (hy1 : -b ≤ y) (hy2 : y ≤ b) : -(a * b) ≤ x * y ∧ x * y ≤ a * b := by
  have ha : 0 ≤ a := by omega
  have hb : 0 ≤ b := by omega
  have h : (x * y).natAbs ≤ (a * b).natAbs := by
    rw [Int.natAbs_mul, Int.natAbs_mul]
    exact Nat.mul_le_mul (by omega) (by omega)
  have hab : 0 ≤ a * b := Int.mul_nonneg ha hb
  omega
theorem sgn_mul_bd {x a : Int} (j : Nat) (h1 : -a ≤ x) (h2 : x ≤ a) : -a ≤ sgn j * x ∧ sgn j * x ≤ a := by
  rcases sgn_or j with h | h <;> rw [h] <;> omega
theorem detTo_bd_of {n : Nat} {b D : Int} {t : List (List Int)} (hb : 0 ≤ b) (hD : 0 ≤ D) (hlow : ∀ j, -b ≤ (t.getD 0 []).getD j 0) (hhigh : ∀ j, (t.getD 0 []).getD j 0 ≤ b) (K : Nat) (hd : ∀ j, j < K → -D ≤ detL n (Mx.minor t j) ∧ detL n (Mx.minor t j) ≤ D) :
    ∀ k, k ≤ K → -((k : Int) * (b * D)) ≤ detTo n t k ∧ detTo n t k ≤ (k : Int) * (b * D)
  | 0, _ => by simp [detTo_zero]
  | k + 1, hk => by
    have ih := detTo_bd_of hb hD hlow hhigh K hd k (by omega)
    rw [detTo_succ]
    have h1 := sgn_mul_bd k (hlow k) (hhigh k)
    have h2 := hd k (by omega)
    have h3 := mul_bd h1.1 h1.2 h2.1 h2.2
    have e : ((k + 1 : Nat) : Int) * (b * D) = (k : Int) * (b * D) + b * D := by rw [show ((k + 1 : Nat) : Int) = (k : Int) + 1 by omega, Int.add_mul, Int.one_mul]
    omega
theorem detL_bd {b : Int} (hb : 0 ≤ b) : ∀ {n : Nat} {t : List (List Int)}, Sq n b t → -(detB b n) ≤ detL n t ∧ detL n t ≤ detB b n
  | 0, _, _ => by simp [detL, detB]
  | n + 1, t, h => detTo_bd_of hb (detB_nn hb n) (h.low 0) (h.high 0) (n + 1) (fun j hj => detL_bd hb (h.minor j hj)) (n + 1) (Nat.le_refl _)
theorem detTo_bd {b : Int} (hb : 0 ≤ b) {n : Nat} {t : List (List Int)} (h : Sq (n + 1) b t) (k : Nat) (hk : k ≤ n + 1) : -((k : Int) * (b * detB b n)) ≤ detTo n t k ∧ detTo n t k ≤ (k : Int) * (b * detB b n) :=
  detTo_bd_of hb (detB_nn hb n) (h.low 0) (h.high 0) (n + 1) (fun j hj => detL_bd hb (h.minor j hj)) k hk
theorem detB_4 {n : Nat} (h : n ≤ 4) : detB 10000 n ≤ 240000000000000000 := by
  match n, h with
  | 0, _ => decide
  | 1, _ => decide
  | 2, _ => decide
  | 3, _ => decide
  | 4, _ => decide
theorem IsM.sq {n : Nat} {m : List (List Int)} (h : IsM n m) : Sq n 1000000 m := ⟨h.len, h.row, fun i j => by have := h.low i j; omega, h.high⟩
theorem Sq.mono {n : Nat} {b c : Int} {t : List (List Int)} (h : Sq n b t) (hb : b ≤ c) : Sq n c t := ⟨h.len, h.row, fun i j => by have := h.low i j; omega, fun i j => by have := h.high i j; omega⟩
end Go.Mx
namespace Go.Mx
theorem isSm_noMat {m : List (List Int)} (h : isMat m = false) : isSm m = false := by unfold isSm; rw [h]; rfl
theorem isSm_long {m : List (List Int)} (h : ¬ m.length ≤ 4) : isSm m = false := by unfold isSm; rw [decide_eq_false h]; simp
theorem isSm_bad {m : List (List Int)} {k : Nat} (hk : k < m.length) (h : lowOk (m.getD k []) = false) : isSm m = false := by
  unfold isSm; rw [all_bad (p := lowOk) [] hk h]; simp
theorem isSm_all {m : List (List Int)} (h : isMat m = true) (h4 : m.length ≤ 4) (h2 : (m.take m.length).all lowOk = true) : isSm m = true := by
  unfold isSm; rw [h, decide_eq_true h4, all_done h2]; rfl
theorem isSm_of {m : List (List Int)} (h2 : (m.take m.length).all lowOk = true) : isSm m = (isMat m && decide (m.length ≤ 4)) := by
  unfold isSm; rw [all_done h2]; simp
theorem lowOk_bad {r : List Int} {j : Nat} (hj : j < r.length) (h : 9 < r.getD j 0) : lowOk r = false := all_bad (p := fun x => decide (x ≤ 9)) 0 hj (by simpa using h)
theorem lowOk_next {r : List Int} {j : Nat} (hj : j < r.length) (hq : (r.take j).all (fun x => decide (x ≤ 9)) = true) (h : r.getD j 0 ≤ 9) : (r.take (j + 1)).all (fun x => decide (x ≤ 9)) = true := all_next (p := fun x => decide (x ≤ 9)) 0 hj hq (by simpa using h)
end Go.Mx
namespace Go.Mx
/-- the least and the greatest of the first values -/
def minTo (f : Nat → Int) : Nat → Int
  | 0 => f 0
  | k + 1 => min (minTo f k) (f k)
def maxTo (f : Nat → Int) : Nat → Int
  | 0 => f 0
  | k + 1 => max (maxTo f k) (f k)
def rowS (m : List (List Int)) (i : Nat) : Int := (m.getD i []).sum
def minFrom (f : Nat → Int) (k : Nat) : Int := if k = 0 then 0 else minTo f k
def maxFrom (f : Nat → Int) (k : Nat) : Int := if k = 0 then 0 else maxTo f k
theorem minFrom_one (f : Nat → Int) : minFrom f 1 = f 0 := by simp [minFrom, minTo]
theorem minFrom_hit (f : Nat → Int) (k : Nat) (hk : 0 < k) (h : f k < minFrom f k) : minFrom f (k + 1) = f k := by
  unfold minFrom at h ⊢
  rw [if_neg (by omega)] at h
  rw [if_neg (by omega), minTo]; omega
theorem minFrom_miss (f : Nat → Int) (k : Nat) (hk : 0 < k) (h : ¬ f k < minFrom f k) : minFrom f (k + 1) = minFrom f k := by
  unfold minFrom at h ⊢
  rw [if_neg (by omega)] at h
  rw [if_neg (by omega), if_neg (by omega), minTo]; omega
theorem maxFrom_succ (f : Nat → Int) (k : Nat) (h : 0 ≤ f 0) : maxFrom f (k + 1) = max (maxFrom f k) (f k) := by
  unfold maxFrom
  rw [if_neg (by omega)]
  cases k with
  | zero => simp [maxTo]; omega
  | succ k => rw [if_neg (by omega)]; rfl
theorem minFrom_n (f : Nat → Int) (n : Nat) (h : 1 ≤ n) : minFrom f n = minTo f n := by unfold minFrom; rw [if_neg (by omega)]
theorem maxFrom_n (f : Nat → Int) (n : Nat) (h : 1 ≤ n) : maxFrom f n = maxTo f n := by unfold maxFrom; rw [if_neg (by omega)]
theorem minTo_bd {f : Nat → Int} (h : ∀ i, 0 ≤ f i ∧ f i ≤ 1000000000) : ∀ k, 0 ≤ minTo f k ∧ minTo f k ≤ 1000000000
  | 0 => h 0
  | k + 1 => by have := minTo_bd h k; have := h k; simp only [minTo]; omega
theorem maxTo_bd {f : Nat → Int} (h : ∀ i, 0 ≤ f i ∧ f i ≤ 1000000000) : ∀ k, 0 ≤ maxTo f k ∧ maxTo f k ≤ 1000000000
  | 0 => h 0
  | k + 1 => by have := maxTo_bd h k; have := h k; simp only [maxTo]; omega
theorem IsM.rowS_bd {n : Nat} {m : List (List Int)} (h : IsM n m) (i : Nat) : 0 ≤ rowS m i ∧ rowS m i ≤ 1000000000 := by
  have h1 := sum_take_pos (m.getD i []) 1000000 (by omega) (fun j => ⟨h.low i j, h.high i j⟩) (m.getD i []).length
  rw [List.take_length] at h1
  have h2 : (m.getD i []).length ≤ 9 := by
    by_cases hi : i < n
    · rw [h.row i hi]; exact h.le
    · have : m.getD i [] = [] := by rw [List.getD_eq_getElem?_getD, List.getElem?_eq_none (by rw [h.len]; omega)]; rfl
      rw [this]; simp
  unfold rowS
  omega
end Go.Mx
namespace Go.Mx
/-- the first rows of a table without its first one, and without a column -/
def minTab (t : List (List Int)) (j k : Nat) : List (List Int) := ((t.take k).drop 1).map fun r => r.eraseIdx j
theorem minTab_length (t : List (List Int)) (j k : Nat) (h : k ≤ t.length) : (minTab t j k).length = k - 1 := by simp [minTab]; omega
theorem minTab_one (t : List (List Int)) (j : Nat) : minTab t j 1 = [] := by cases t <;> simp [minTab]
theorem minTab_zero (t : List (List Int)) (j : Nat) : minTab t j 0 = [] := by simp [minTab]
theorem minTab_succ (t : List (List Int)) (j k : Nat) (hk : 1 ≤ k) (h : k < t.length) : minTab t j (k + 1) = minTab t j k ++ [(t.getD k []).eraseIdx j] := by
  unfold minTab
  rw [List.take_succ_eq_append_getElem h, List.drop_append_of_le_length (by rw [List.length_take]; omega), List.map_append]
  simp [List.getD_eq_getElem?_getD, List.getElem?_eq_getElem h]
theorem minTab_all (t : List (List Int)) (j : Nat) : minTab t j t.length = minor t j := by simp [minTab, minor]
end Go.Mx
namespace Go.Mx
theorem detB_3 {n : Nat} (h : n ≤ 3) : detB 10000 n ≤ 6000000000000 := by
  match n, h with
  | 0, _ => decide
  | 1, _ => decide
  | 2, _ => decide
  | 3, _ => decide
theorem det_step_bd {n : Nat} {t : List (List Int)} (h : Sq (n + 1) 10000 t) (hn : n ≤ 3) (j : Nat) (hj : j < n + 1) :
    (-10000 ≤ sgn j * (t.getD 0 []).getD j 0 ∧ sgn j * (t.getD 0 []).getD j 0 ≤ 10000) ∧
    (-60000000000000000 ≤ sgn j * (t.getD 0 []).getD j 0 * detL n (minor t j) ∧ sgn j * (t.getD 0 []).getD j 0 * detL n (minor t j) ≤ 60000000000000000) ∧
    (-240000000000000000 ≤ detTo n t j ∧ detTo n t j ≤ 240000000000000000) := by
  have h1 := sgn_mul_bd j (h.low 0 j) (h.high 0 j)
  have h2 := detL_bd (b := 10000) (by omega) (h.minor j hj)
  have h3 := detB_3 hn
  have h4 := mul_bd (a := 10000) (b := 6000000000000) h1.1 h1.2 (by omega) (by omega : detL n (minor t j) ≤ 6000000000000)
  have h5 := detTo_bd (b := 10000) (by omega) h j (by omega)
  have h6 : (j : Int) * (10000 * detB 10000 n) ≤ 4 * (10000 * 6000000000000) := by
    have h7 : 0 ≤ detB 10000 n := detB_nn (by omega) n
    exact Int.mul_le_mul (by omega) (by omega) (by omega) (by omega)
  refine ⟨h1, ⟨by omega, by omega⟩, ⟨by omega, by omega⟩⟩
theorem detTo_zero_step {n : Nat} {t : List (List Int)} {k : Nat} (h : (t.getD 0 []).getD k 0 = 0) : detTo n t (k + 1) = detTo n t k := by
  rw [detTo_succ, h, Int.mul_zero, Int.zero_mul, Int.add_zero]
end Go.Mx

/- Several texts of mine in one: MatMath, TabMath, FillMath, ArcMath, CharMath, DetT, ZMath, PolyMath, PlyMath, WarMath, GrwMath, LgtMath, JoinMath, BelMath, SqMath, CodeMath, WordMath, ApplyMath, PowMath, PcMath, PmMath, LiveMath, ShMath. -/
import Derived.Test.YtdngkfedkgiioaaDoorPkA
import Derived.WalkKit
import Derived.Lib.Strings
import Derived.Lib.SplitLaws
import Derived.Lib.IndexBytes
import Derived.Lib.AtoiAllCases
import Derived.Lib.ItoaMem
import Derived.Lib.IndexMore
/- Plain laws on lists and tables of numbers: what the program and the reference both reckon. No dump is imported. -/
namespace Go.Mx
open Go

/-! ### lists looked through from the front -/
theorem all_snoc {α : Type} (p : α → Bool) (l : List α) (k : Nat) (d : α) (hk : k < l.length) : (l.take (k + 1)).all p = ((l.take k).all p && p (l.getD k d)) := by
  rw [List.take_succ_eq_append_getElem hk, List.all_append]
  simp [List.getD_eq_getElem?_getD, List.getElem?_eq_getElem hk]
theorem all_next {α : Type} {p : α → Bool} {l : List α} {k : Nat} (d : α) (hk : k < l.length) (h : (l.take k).all p = true) (h2 : p (l.getD k d) = true) : (l.take (k + 1)).all p = true := by
  rw [all_snoc p l k d hk, h, h2]; rfl
theorem all_bad {α : Type} {p : α → Bool} {l : List α} {k : Nat} (d : α) (hk : k < l.length) (h : p (l.getD k d) = false) : l.all p = false := by
  rw [List.getD_eq_getElem?_getD, List.getElem?_eq_getElem hk] at h
  rw [List.all_eq_false]
  exact ⟨l[k], List.getElem_mem hk, by simpa using h⟩
theorem all_done {α : Type} {p : α → Bool} {l : List α} (h : (l.take l.length).all p = true) : l.all p = true := by rwa [List.take_length] at h
theorem all_at {α : Type} {p : α → Bool} {l : List α} (h : l.all p = true) (i : Nat) (d : α) (hi : i < l.length) : p (l.getD i d) = true := by
  rw [List.getD_eq_getElem?_getD, List.getElem?_eq_getElem hi]
  exact List.all_eq_true.1 h _ (List.getElem_mem hi)

/-! ### matrices -/
def rowOk (n : Nat) (r : List Int) : Bool := decide (r.length = n) && r.all fun x => decide (0 ≤ x ∧ x ≤ 1000000)
def isMat (m : List (List Int)) : Bool := decide (1 ≤ m.length ∧ m.length ≤ 9) && m.all (rowOk m.length)
def lowOk (r : List Int) : Bool := r.all fun x => decide (x ≤ 9)
def isSm (m : List (List Int)) : Bool := isMat m && (decide (m.length ≤ 4) && m.all lowOk)

/-- what is known of a matrix -/
structure IsM (n : Nat) (m : List (List Int)) : Prop where
  len : m.length = n
  pos : 1 ≤ n
  le : n ≤ 9
  row : ∀ i, i < n → (m.getD i []).length = n
  low : ∀ i j, 0 ≤ (m.getD i []).getD j 0
  high : ∀ i j, (m.getD i []).getD j 0 ≤ 1000000

theorem getD_mem_or {α : Type} (l : List α) (i : Nat) (d : α) : l.getD i d ∈ l ∨ l.getD i d = d := by
  by_cases h : i < l.length
  · left; rw [List.getD_eq_getElem?_getD, List.getElem?_eq_getElem h]; exact List.getElem_mem h
  · right; rw [List.getD_eq_getElem?_getD, List.getElem?_eq_none (by omega)]; rfl

theorem isMat_yes {m : List (List Int)} (h : isMat m = true) : IsM m.length m := by
  simp only [isMat, Bool.and_eq_true, decide_eq_true_eq, List.all_eq_true, rowOk] at h
  obtain ⟨⟨h1, h2⟩, h3⟩ := h
  have hx : ∀ i j, 0 ≤ (m.getD i []).getD j 0 ∧ (m.getD i []).getD j 0 ≤ 1000000 := by
    intro i j
    rcases getD_mem_or m i [] with hm | hm
    · rcases getD_mem_or (m.getD i []) j 0 with hj | hj
      · exact (h3 _ hm).2 _ hj
      · rw [hj]; omega
    · rw [hm]; simp
  refine ⟨rfl, h1, h2, fun i hi => ?_, fun i j => (hx i j).1, fun i j => (hx i j).2⟩
  have hm : m.getD i [] ∈ m := by rw [List.getD_eq_getElem?_getD, List.getElem?_eq_getElem hi]; exact List.getElem_mem hi
  exact (h3 _ hm).1
theorem isSm_yes {m : List (List Int)} (h : isSm m = true) : IsM m.length m ∧ m.length ≤ 4 ∧ ∀ i j, (m.getD i []).getD j 0 ≤ 9 := by
  simp only [isSm, Bool.and_eq_true, decide_eq_true_eq] at h
  obtain ⟨h1, h2, h3⟩ := h
  refine ⟨isMat_yes h1, h2, fun i j => ?_⟩
  simp only [List.all_eq_true, lowOk, decide_eq_true_eq] at h3
  rcases getD_mem_or m i [] with hm | hm
  · rcases getD_mem_or (m.getD i []) j 0 with hj | hj
    · exact h3 _ hm _ hj
    · rw [hj]; omega
  · rw [hm]; simp

theorem rowOk_len {n : Nat} {r : List Int} (h : ¬ r.length = n) : rowOk n r = false := by simp [rowOk, h]
theorem rowOk_of {n : Nat} {r : List Int} (h : r.length = n) : rowOk n r = r.all fun x => decide (0 ≤ x ∧ x ≤ 1000000) := by simp [rowOk, h]
theorem isMat_size {m : List (List Int)} (h : ¬ (1 ≤ m.length ∧ m.length ≤ 9)) : isMat m = false := by
  unfold isMat
  rw [decide_eq_false h]; rfl
theorem isMat_row {m : List (List Int)} {k : Nat} (hk : k < m.length) (h : rowOk m.length (m.getD k []) = false) : isMat m = false := by
  unfold isMat
  rw [all_bad (p := rowOk m.length) [] hk h, Bool.and_false]
theorem isMat_all {m : List (List Int)} (h : 1 ≤ m.length ∧ m.length ≤ 9) (h2 : (m.take m.length).all (rowOk m.length) = true) : isMat m = true := by
  unfold isMat
  rw [decide_eq_true h, all_done h2]; rfl

/-! ### sums -/
theorem sum_take_succ (xs : List Int) (k : Nat) (h : k < xs.length) : (xs.take (k + 1)).sum = (xs.take k).sum + xs.getD k 0 := by
  rw [List.take_succ_eq_append_getElem h, List.sum_append]
  simp [List.getD_eq_getElem?_getD, List.getElem?_eq_getElem h]
theorem sum_take_bd (xs : List Int) (b : Int) (hb : 0 ≤ b) (h : ∀ j, -b ≤ xs.getD j 0 ∧ xs.getD j 0 ≤ b) (k : Nat) : -(b * (k : Int)) ≤ (xs.take k).sum ∧ (xs.take k).sum ≤ b * (k : Int) := by
  induction k with
  | zero => simp
  | succ k ih =>
    by_cases hk : k < xs.length
    · rw [sum_take_succ xs k hk]
      have := h k
      have e : b * ((k + 1 : Nat) : Int) = b * (k : Int) + b := by rw [show ((k + 1 : Nat) : Int) = (k : Int) + 1 by omega, Int.mul_add, Int.mul_one]
      omega
    · rw [List.take_of_length_le (by omega)]
      rw [List.take_of_length_le (by omega)] at ih
      have e : b * ((k + 1 : Nat) : Int) = b * (k : Int) + b := by rw [show ((k + 1 : Nat) : Int) = (k : Int) + 1 by omega, Int.mul_add, Int.mul_one]
      omega
theorem sum_take_pos (xs : List Int) (b : Int) (hb : 0 ≤ b) (h : ∀ j, 0 ≤ xs.getD j 0 ∧ xs.getD j 0 ≤ b) (k : Nat) : 0 ≤ (xs.take k).sum ∧ (xs.take k).sum ≤ b * (k : Int) := by
  refine ⟨?_, (sum_take_bd xs b hb (fun j => by have := h j; omega) k).2⟩
  induction k with
  | zero => simp
  | succ k ih =>
    by_cases hk : k < xs.length
    · rw [sum_take_succ xs k hk]
      have := h k
      omega
    · rw [List.take_of_length_le (by omega)]
      rw [List.take_of_length_le (by omega)] at ih
      exact ih

/-! ### determinants -/
def sgn (j : Nat) : Int := if j % 2 = 0 then 1 else -1
theorem sgn_zero : sgn 0 = 1 := rfl
theorem sgn_succ (j : Nat) : sgn (j + 1) = - sgn j := by
  unfold sgn
  rcases Nat.mod_two_eq_zero_or_one j with h | h
  · rw [if_pos h, if_neg (show ¬ (j + 1) % 2 = 0 by omega)]
  · rw [if_neg (show ¬ j % 2 = 0 by omega), if_pos (show (j + 1) % 2 = 0 by omega)]; rfl
theorem sgn_or (j : Nat) : sgn j = 1 ∨ sgn j = -1 := by unfold sgn; split <;> simp
def minor (t : List (List Int)) (j : Nat) : List (List Int) := (t.drop 1).map fun r => r.eraseIdx j
/-- the determinant of a table of n rows -/
def detL : Nat → List (List Int) → Int
  | 0, _ => 1
  | n + 1, t => ((List.range (n + 1)).map fun j => sgn j * (t.getD 0 []).getD j 0 * detL n (minor t j)).sum
/-- .. up to a column -/
def detTo (n : Nat) (t : List (List Int)) (k : Nat) : Int := ((List.range k).map fun j => sgn j * (t.getD 0 []).getD j 0 * detL n (minor t j)).sum
theorem detTo_zero (n : Nat) (t : List (List Int)) : detTo n t 0 = 0 := rfl
theorem detTo_succ (n : Nat) (t : List (List Int)) (k : Nat) : detTo n t (k + 1) = detTo n t k + sgn k * (t.getD 0 []).getD k 0 * detL n (minor t k) := by
  unfold detTo
  rw [List.range_succ, List.map_append, List.sum_append]
  simp
theorem detTo_all (n : Nat) (t : List (List Int)) : detTo n t (n + 1) = detL (n + 1) t := rfl

/-- a square table of numbers within a bound -/
structure Sq (n : Nat) (b : Int) (t : List (List Int)) : Prop where
  len : t.length = n
  row : ∀ i, i < n → (t.getD i []).length = n
  low : ∀ i j, -b ≤ (t.getD i []).getD j 0
  high : ∀ i j, (t.getD i []).getD j 0 ≤ b

theorem minor_at (t : List (List Int)) (j i : Nat) : (minor t j).getD i [] = (t.getD (i + 1) []).eraseIdx j := by
  unfold minor
  rw [List.getD_eq_getElem?_getD, List.getElem?_map, List.getElem?_drop, List.getD_eq_getElem?_getD, Nat.add_comm 1 i]
  cases h : t[i + 1]? with
  | none => simp
  | some r => simp
theorem minor_length (t : List (List Int)) (j : Nat) : (minor t j).length = t.length - 1 := by simp [minor]
theorem eraseIdx_getD (r : List Int) (j k : Nat) : (r.eraseIdx j).getD k 0 = if k < j then r.getD k 0 else r.getD (k + 1) 0 := by
  rw [List.getD_eq_getElem?_getD, List.getElem?_eraseIdx]
  split <;> simp [List.getD_eq_getElem?_getD]
theorem Sq.minor {n : Nat} {b : Int} {t : List (List Int)} (h : Sq (n + 1) b t) (j : Nat) (hj : j < n + 1) : Sq n b (minor t j) := by
  refine ⟨by rw [minor_length, h.len]; rfl, fun i hi => ?_, fun i k => ?_, fun i k => ?_⟩
  · rw [minor_at, List.length_eraseIdx, h.row (i + 1) (by omega), if_pos hj]; rfl
  · rw [minor_at, eraseIdx_getD]; split
    · exact h.low _ _
    · exact h.low _ _
  · rw [minor_at, eraseIdx_getD]; split
    · exact h.high _ _
    · exact h.high _ _

/-- how great a determinant may be -/
def detB (b : Int) : Nat → Int
  | 0 => 1
  | n + 1 => ((n + 1 : Nat) : Int) * (b * detB b n)
theorem detB_nn {b : Int} (hb : 0 ≤ b) : ∀ n, 0 ≤ detB b n
  | 0 => by simp [detB]
  | n + 1 => by unfold detB; exact Int.mul_nonneg (by omega) (Int.mul_nonneg hb (detB_nn hb n))
theorem mul_bd {x y a b : Int} (hx1 : -a ≤ x) (hx2 : x ≤ a) (hy1 : -b ≤ y) (hy2 : y ≤ b) : -(a * b) ≤ x * y ∧ x * y ≤ a * b := by
  have ha : 0 ≤ a := by omega
  have hb : 0 ≤ b := by omega
  have h : (x * y).natAbs ≤ (a * b).natAbs := by
    rw [Int.natAbs_mul, Int.natAbs_mul]
    exact Nat.mul_le_mul (by omega) (by omega)
  have hab : 0 ≤ a * b := Int.mul_nonneg ha hb
  omega
theorem sgn_mul_bd {x a : Int} (j : Nat) (h1 : -a ≤ x) (h2 : x ≤ a) : -a ≤ sgn j * x ∧ sgn j * x ≤ a := by
  rcases sgn_or j with h | h <;> rw [h] <;> omega
theorem detTo_bd_of {n : Nat} {b D : Int} {t : List (List Int)} (hb : 0 ≤ b) (hD : 0 ≤ D) (hlow : ∀ j, -b ≤ (t.getD 0 []).getD j 0) (hhigh : ∀ j, (t.getD 0 []).getD j 0 ≤ b) (K : Nat) (hd : ∀ j, j < K → -D ≤ detL n (Mx.minor t j) ∧ detL n (Mx.minor t j) ≤ D) :
    ∀ k, k ≤ K → -((k : Int) * (b * D)) ≤ detTo n t k ∧ detTo n t k ≤ (k : Int) * (b * D)
  | 0, _ => by simp [detTo_zero]
  | k + 1, hk => by
    have ih := detTo_bd_of hb hD hlow hhigh K hd k (by omega)
    rw [detTo_succ]
    have h1 := sgn_mul_bd k (hlow k) (hhigh k)
    have h2 := hd k (by omega)
    have h3 := mul_bd h1.1 h1.2 h2.1 h2.2
    have e : ((k + 1 : Nat) : Int) * (b * D) = (k : Int) * (b * D) + b * D := by rw [show ((k + 1 : Nat) : Int) = (k : Int) + 1 by omega, Int.add_mul, Int.one_mul]
    omega
theorem detL_bd {b : Int} (hb : 0 ≤ b) : ∀ {n : Nat} {t : List (List Int)}, Sq n b t → -(detB b n) ≤ detL n t ∧ detL n t ≤ detB b n
  | 0, _, _ => by simp [detL, detB]
  | n + 1, t, h => detTo_bd_of hb (detB_nn hb n) (h.low 0) (h.high 0) (n + 1) (fun j hj => detL_bd hb (h.minor j hj)) (n + 1) (Nat.le_refl _)
theorem detTo_bd {b : Int} (hb : 0 ≤ b) {n : Nat} {t : List (List Int)} (h : Sq (n + 1) b t) (k : Nat) (hk : k ≤ n + 1) : -((k : Int) * (b * detB b n)) ≤ detTo n t k ∧ detTo n t k ≤ (k : Int) * (b * detB b n) :=
  detTo_bd_of hb (detB_nn hb n) (h.low 0) (h.high 0) (n + 1) (fun j hj => detL_bd hb (h.minor j hj)) k hk
theorem detB_4 {n : Nat} (h : n ≤ 4) : detB 10000 n ≤ 240000000000000000 := by
  match n, h with
  | 0, _ => decide
  | 1, _ => decide
  | 2, _ => decide
  | 3, _ => decide
  | 4, _ => decide
theorem IsM.sq {n : Nat} {m : List (List Int)} (h : IsM n m) : Sq n 1000000 m := ⟨h.len, h.row, fun i j => by have := h.low i j; omega, h.high⟩
theorem Sq.mono {n : Nat} {b c : Int} {t : List (List Int)} (h : Sq n b t) (hb : b ≤ c) : Sq n c t := ⟨h.len, h.row, fun i j => by have := h.low i j; omega, fun i j => by have := h.high i j; omega⟩
end Go.Mx
namespace Go.Mx
theorem isSm_noMat {m : List (List Int)} (h : isMat m = false) : isSm m = false := by unfold isSm; rw [h]; rfl
theorem isSm_long {m : List (List Int)} (h : ¬ m.length ≤ 4) : isSm m = false := by unfold isSm; rw [decide_eq_false h]; simp
theorem isSm_bad {m : List (List Int)} {k : Nat} (hk : k < m.length) (h : lowOk (m.getD k []) = false) : isSm m = false := by
  unfold isSm; rw [all_bad (p := lowOk) [] hk h]; simp
theorem isSm_all {m : List (List Int)} (h : isMat m = true) (h4 : m.length ≤ 4) (h2 : (m.take m.length).all lowOk = true) : isSm m = true := by
  unfold isSm; rw [h, decide_eq_true h4, all_done h2]; rfl
theorem isSm_of {m : List (List Int)} (h2 : (m.take m.length).all lowOk = true) : isSm m = (isMat m && decide (m.length ≤ 4)) := by
  unfold isSm; rw [all_done h2]; simp
theorem lowOk_bad {r : List Int} {j : Nat} (hj : j < r.length) (h : 9 < r.getD j 0) : lowOk r = false := all_bad (p := fun x => decide (x ≤ 9)) 0 hj (by simpa using h)
theorem lowOk_next {r : List Int} {j : Nat} (hj : j < r.length) (hq : (r.take j).all (fun x => decide (x ≤ 9)) = true) (h : r.getD j 0 ≤ 9) : (r.take (j + 1)).all (fun x => decide (x ≤ 9)) = true := all_next (p := fun x => decide (x ≤ 9)) 0 hj hq (by simpa using h)
end Go.Mx
namespace Go.Mx
/-- the least and the greatest of the first values -/
def minTo (f : Nat → Int) : Nat → Int
  | 0 => f 0
  | k + 1 => min (minTo f k) (f k)
def maxTo (f : Nat → Int) : Nat → Int
  | 0 => f 0
  | k + 1 => max (maxTo f k) (f k)
def rowS (m : List (List Int)) (i : Nat) : Int := (m.getD i []).sum
def minFrom (f : Nat → Int) (k : Nat) : Int := if k = 0 then 0 else minTo f k
def maxFrom (f : Nat → Int) (k : Nat) : Int := if k = 0 then 0 else maxTo f k
theorem minFrom_one (f : Nat → Int) : minFrom f 1 = f 0 := by simp [minFrom, minTo]
theorem minFrom_hit (f : Nat → Int) (k : Nat) (hk : 0 < k) (h : f k < minFrom f k) : minFrom f (k + 1) = f k := by
  unfold minFrom at h ⊢
  rw [if_neg (by omega)] at h
  rw [if_neg (by omega), minTo]; omega
theorem minFrom_miss (f : Nat → Int) (k : Nat) (hk : 0 < k) (h : ¬ f k < minFrom f k) : minFrom f (k + 1) = minFrom f k := by
  unfold minFrom at h ⊢
  rw [if_neg (by omega)] at h
  rw [if_neg (by omega), if_neg (by omega), minTo]; omega
theorem maxFrom_succ (f : Nat → Int) (k : Nat) (h : 0 ≤ f 0) : maxFrom f (k + 1) = max (maxFrom f k) (f k) := by
  unfold maxFrom
  rw [if_neg (by omega)]
  cases k with
  | zero => simp [maxTo]; omega
  | succ k => rw [if_neg (by omega)]; rfl
theorem minFrom_n (f : Nat → Int) (n : Nat) (h : 1 ≤ n) : minFrom f n = minTo f n := by unfold minFrom; rw [if_neg (by omega)]
theorem maxFrom_n (f : Nat → Int) (n : Nat) (h : 1 ≤ n) : maxFrom f n = maxTo f n := by unfold maxFrom; rw [if_neg (by omega)]
theorem minTo_bd {f : Nat → Int} (h : ∀ i, 0 ≤ f i ∧ f i ≤ 1000000000) : ∀ k, 0 ≤ minTo f k ∧ minTo f k ≤ 1000000000
  | 0 => h 0
  | k + 1 => by have := minTo_bd h k; have := h k; simp only [minTo]; omega
theorem maxTo_bd {f : Nat → Int} (h : ∀ i, 0 ≤ f i ∧ f i ≤ 1000000000) : ∀ k, 0 ≤ maxTo f k ∧ maxTo f k ≤ 1000000000
  | 0 => h 0
  | k + 1 => by have := maxTo_bd h k; have := h k; simp only [maxTo]; omega
theorem IsM.rowS_bd {n : Nat} {m : List (List Int)} (h : IsM n m) (i : Nat) : 0 ≤ rowS m i ∧ rowS m i ≤ 1000000000 := by
  have h1 := sum_take_pos (m.getD i []) 1000000 (by omega) (fun j => ⟨h.low i j, h.high i j⟩) (m.getD i []).length
  rw [List.take_length] at h1
  have h2 : (m.getD i []).length ≤ 9 := by
    by_cases hi : i < n
    · rw [h.row i hi]; exact h.le
    · have : m.getD i [] = [] := by rw [List.getD_eq_getElem?_getD, List.getElem?_eq_none (by rw [h.len]; omega)]; rfl
      rw [this]; simp
  unfold rowS
  omega
end Go.Mx
namespace Go.Mx
/-- the first rows of a table without its first one, and without a column -/
def minTab (t : List (List Int)) (j k : Nat) : List (List Int) := ((t.take k).drop 1).map fun r => r.eraseIdx j
theorem minTab_length (t : List (List Int)) (j k : Nat) (h : k ≤ t.length) : (minTab t j k).length = k - 1 := by simp [minTab]; omega
theorem minTab_one (t : List (List Int)) (j : Nat) : minTab t j 1 = [] := by cases t <;> simp [minTab]
theorem minTab_zero (t : List (List Int)) (j : Nat) : minTab t j 0 = [] := by simp [minTab]
theorem minTab_succ (t : List (List Int)) (j k : Nat) (hk : 1 ≤ k) (h : k < t.length) : minTab t j (k + 1) = minTab t j k ++ [(t.getD k []).eraseIdx j] := by
  unfold minTab
  rw [List.take_succ_eq_append_getElem h, List.drop_append_of_le_length (by rw [List.length_take]; omega), List.map_append]
  simp [List.getD_eq_getElem?_getD, List.getElem?_eq_getElem h]
theorem minTab_all (t : List (List Int)) (j : Nat) : minTab t j t.length = minor t j := by simp [minTab, minor]
end Go.Mx
namespace Go.Mx
theorem detB_3 {n : Nat} (h : n ≤ 3) : detB 10000 n ≤ 6000000000000 := by
  match n, h with
  | 0, _ => decide
  | 1, _ => decide
  | 2, _ => decide
  | 3, _ => decide
theorem det_step_bd {n : Nat} {t : List (List Int)} (h : Sq (n + 1) 10000 t) (hn : n ≤ 3) (j : Nat) (hj : j < n + 1) :
    (-10000 ≤ sgn j * (t.getD 0 []).getD j 0 ∧ sgn j * (t.getD 0 []).getD j 0 ≤ 10000) ∧
    (-60000000000000000 ≤ sgn j * (t.getD 0 []).getD j 0 * detL n (minor t j) ∧ sgn j * (t.getD 0 []).getD j 0 * detL n (minor t j) ≤ 60000000000000000) ∧
    (-240000000000000000 ≤ detTo n t j ∧ detTo n t j ≤ 240000000000000000) := by
  have h1 := sgn_mul_bd j (h.low 0 j) (h.high 0 j)
  have h2 := detL_bd (b := 10000) (by omega) (h.minor j hj)
  have h3 := detB_3 hn
  have h4 := mul_bd (a := 10000) (b := 6000000000000) h1.1 h1.2 (by omega) (by omega : detL n (minor t j) ≤ 6000000000000)
  have h5 := detTo_bd (b := 10000) (by omega) h j (by omega)
  have h6 : (j : Int) * (10000 * detB 10000 n) ≤ 4 * (10000 * 6000000000000) := by
    have h7 : 0 ≤ detB 10000 n := detB_nn (by omega) n
    exact Int.mul_le_mul (by omega) (by omega) (by omega) (by omega)
  refine ⟨h1, ⟨by omega, by omega⟩, ⟨by omega, by omega⟩⟩
theorem detTo_zero_step {n : Nat} {t : List (List Int)} {k : Nat} (h : (t.getD 0 []).getD k 0 = 0) : detTo n t (k + 1) = detTo n t k := by
  rw [detTo_succ, h, Int.mul_zero, Int.zero_mul, Int.add_zero]
end Go.Mx

/- Plain laws on tables given by a function of row and column. No dump is imported. -/
namespace Go.Mx
open Go

def rowF (C : Nat) (f : Nat → Int) : List Int := (List.range C).map f
def tabF (R C : Nat) (F : Nat → Nat → Int) : List (List Int) := (List.range R).map fun x => rowF C (F x)
/-- the entry of a table -/
def at2 (m : List (List Int)) (i j : Nat) : Int := (m.getD i []).getD j 0
/-- a table's entries with one turned -/
def updF (F : Nat → Nat → Int) (i j : Nat) (v : Int) : Nat → Nat → Int := fun x y => if x = i ∧ y = j then v else F x y
def updR (f : Nat → Int) (j : Nat) (v : Int) : Nat → Int := fun y => if y = j then v else f y

theorem rowF_length (C : Nat) (f : Nat → Int) : (rowF C f).length = C := by simp [rowF]
theorem rowF_at (C : Nat) (f : Nat → Int) (j : Nat) (h : j < C) : (rowF C f).getD j 0 = f j := by simp [rowF, List.getD_eq_getElem?_getD, h]
theorem rowF_congr {C : Nat} {f f' : Nat → Int} (h : ∀ j, j < C → f j = f' j) : rowF C f = rowF C f' := by
  unfold rowF
  apply List.map_congr_left
  intro j hj
  exact h j (List.mem_range.1 hj)
theorem rowF_set (C : Nat) (f : Nat → Int) (j : Nat) (v : Int) : (rowF C f).set j v = rowF C (updR f j v) := by
  apply List.ext_getElem
  · simp [rowF]
  · intro i h1 h2
    simp only [List.length_set, rowF_length] at h1
    rw [List.getElem_set]
    simp only [rowF, List.getElem_map, List.getElem_range, updR]
    by_cases e : j = i
    · subst e; simp
    · rw [if_neg e, if_neg (by omega)]
theorem rowF_zero (C : Nat) : rowF C (fun _ => 0) = List.replicate C 0 := by
  apply List.ext_getElem
  · simp [rowF]
  · intro i h1 h2; simp [rowF]
theorem rowF_succ (C : Nat) (f : Nat → Int) : rowF (C + 1) f = rowF C f ++ [f C] := by simp [rowF, List.range_succ]
theorem rowF_of (r : List Int) : rowF r.length (fun j => r.getD j 0) = r := by
  apply List.ext_getElem
  · simp [rowF]
  · intro i h1 h2; simp [rowF, List.getD_eq_getElem?_getD, List.getElem?_eq_getElem h2]

theorem tabF_length (R C : Nat) (F : Nat → Nat → Int) : (tabF R C F).length = R := by simp [tabF]
theorem tabF_row (R C : Nat) (F : Nat → Nat → Int) (i : Nat) (h : i < R) : (tabF R C F).getD i [] = rowF C (F i) := by simp [tabF, List.getD_eq_getElem?_getD, h]
theorem tabF_at (R C : Nat) (F : Nat → Nat → Int) (i j : Nat) (hi : i < R) (hj : j < C) : ((tabF R C F).getD i []).getD j 0 = F i j := by rw [tabF_row R C F i hi, rowF_at C _ j hj]
theorem tabF_congr {R C : Nat} {F F' : Nat → Nat → Int} (h : ∀ i j, i < R → j < C → F i j = F' i j) : tabF R C F = tabF R C F' := by
  unfold tabF
  apply List.map_congr_left
  intro i hi
  exact rowF_congr fun j hj => h i j (List.mem_range.1 hi) hj
theorem tabF_succ (R C : Nat) (F : Nat → Nat → Int) : tabF (R + 1) C F = tabF R C F ++ [rowF C (F R)] := by simp [tabF, List.range_succ]
theorem tabF_zeros (R C : Nat) : tabF R C (fun _ _ => 0) = List.replicate R (List.replicate C 0) := by
  apply List.ext_getElem
  · simp [tabF]
  · intro i h1 h2; simp [tabF, rowF_zero]
theorem tabF_set_row (R C : Nat) (F : Nat → Nat → Int) (i : Nat) (f : Nat → Int) : (tabF R C F).set i (rowF C f) = tabF R C (fun x => if x = i then f else F x) := by
  apply List.ext_getElem
  · simp [tabF]
  · intro k h1 h2
    simp only [List.length_set, tabF_length] at h1
    rw [List.getElem_set]
    simp only [tabF, List.getElem_map, List.getElem_range]
    by_cases e : i = k
    · subst e; simp
    · rw [if_neg e, if_neg (by omega)]
theorem setM_tabF (R C : Nat) (F : Nat → Nat → Int) (i j : Nat) (hi : i < R) (v : Int) : setM (tabF R C F) i j v = tabF R C (updF F i j v) := by
  unfold setM
  rw [tabF_row R C F i hi, rowF_set, tabF_set_row]
  apply tabF_congr
  intro x y _ _
  unfold updF updR
  by_cases e : x = i
  · subst e; simp
  · simp [e]
theorem tabF_of {n k : Nat} {m : List (List Int)} (hl : m.length = n) (hr : ∀ i, i < n → (m.getD i []).length = k) : tabF n k (at2 m) = m := by
  apply ext_getD
  · rw [tabF_length, hl]
  · intro i hi
    rw [tabF_length] at hi
    rw [tabF_row _ _ _ _ hi, ← hr i hi]
    exact rowF_of _
theorem IsM.tab {n : Nat} {m : List (List Int)} (h : IsM n m) : tabF n n (at2 m) = m := tabF_of h.len h.row
theorem tabF_isMat {n : Nat} {F : Nat → Nat → Int} (h1 : 1 ≤ n) (h9 : n ≤ 9) (h : ∀ i j, i < n → j < n → 0 ≤ F i j ∧ F i j ≤ 1000000) : isMat (tabF n n F) = true := by
  simp only [isMat, Bool.and_eq_true, decide_eq_true_eq, List.all_eq_true, tabF_length]
  refine ⟨⟨h1, h9⟩, fun r hr => ?_⟩
  obtain ⟨i, hi, rfl⟩ := List.mem_map.1 hr
  have hi := List.mem_range.1 hi
  simp only [rowOk, rowF_length, Bool.and_eq_true, decide_eq_true_eq, List.all_eq_true]
  refine ⟨trivial, fun x hx => ?_⟩
  obtain ⟨j, hj, rfl⟩ := List.mem_map.1 hx
  exact h i j hi (List.mem_range.1 hj)
theorem tabF_notMat {n : Nat} {F : Nat → Nat → Int} {i j : Nat} (hi : i < n) (hj : j < n) (h : ¬ (0 ≤ F i j ∧ F i j ≤ 1000000)) : isMat (tabF n n F) = false := by
  have hrow : rowOk n (rowF n (F i)) = false := by
    unfold rowOk
    have : (rowF n (F i)).all (fun x => decide (0 ≤ x ∧ x ≤ 1000000)) = false := by
      refine all_bad (k := j) 0 (by rw [rowF_length]; exact hj) ?_
      rw [rowF_at _ _ _ hj]
      exact decide_eq_false h
    rw [this, Bool.and_false]
  refine isMat_row (k := i) (by rw [tabF_length]; exact hi) ?_
  rw [tabF_length, tabF_row _ _ _ _ hi]
  exact hrow
end Go.Mx

/- Plain laws: tables that are filled entry by entry; products and powers; arcs. No dump is imported. -/
namespace Go.Mx
open Go

/-- the entries done so far -/
def maskF (D : Nat → Nat → Bool) (F : Nat → Nat → Int) : Nat → Nat → Int := fun p q => if D p q = true then F p q else 0
theorem mask_set {R C : Nat} {D D' : Nat → Nat → Bool} {F : Nat → Nat → Int} {i j : Nat} (hi : i < R) (h : ∀ p q, p < R → q < C → D' p q = (D p q || (decide (p = i) && decide (q = j)))) : setM (tabF R C (maskF D F)) i j (F i j) = tabF R C (maskF D' F) := by
  rw [setM_tabF _ _ _ _ _ hi]
  apply tabF_congr
  intro p q hp hq
  unfold updF maskF
  rw [h p q hp hq]
  by_cases e : p = i ∧ q = j
  · obtain ⟨rfl, rfl⟩ := e; simp
  · rw [if_neg e]
    by_cases e1 : p = i
    · have : q ≠ j := fun e2 => e ⟨e1, e2⟩
      simp [this]
    · simp [e1]
theorem mask_same {R C : Nat} {D D' : Nat → Nat → Bool} {F : Nat → Nat → Int} (h : ∀ p q, p < R → q < C → D p q = D' p q ∨ F p q = 0) : tabF R C (maskF D F) = tabF R C (maskF D' F) := by
  apply tabF_congr
  intro p q hp hq
  unfold maskF
  rcases h p q hp hq with h | h
  · rw [h]
  · rw [h]; split <;> split <;> rfl
theorem mask_none {R C : Nat} {D : Nat → Nat → Bool} {F : Nat → Nat → Int} (h : ∀ p q, p < R → q < C → D p q = false ∨ F p q = 0) : tabF R C (maskF D F) = tabF R C (fun _ _ => 0) := by
  apply tabF_congr
  intro p q hp hq
  unfold maskF
  rcases h p q hp hq with h | h <;> simp [h]
theorem mask_all {R C : Nat} {D : Nat → Nat → Bool} {F : Nat → Nat → Int} (h : ∀ p q, p < R → q < C → D p q = true ∨ F p q = 0) : tabF R C (maskF D F) = tabF R C F := by
  apply tabF_congr
  intro p q hp hq
  unfold maskF
  rcases h p q hp hq with h | h <;> simp [h]

/-- row by row -/
def doneB (i j p q : Nat) : Bool := decide (p < i) || (decide (p = i) && decide (q < j))
theorem doneB_succ (i j p q : Nat) : doneB i (j + 1) p q = (doneB i j p q || (decide (p = i) && decide (q = j))) := by
  rw [Bool.eq_iff_iff]; simp [doneB]; omega
theorem fill_set {R C : Nat} {F : Nat → Nat → Int} {i j : Nat} (hi : i < R) : setM (tabF R C (maskF (doneB i j) F)) i j (F i j) = tabF R C (maskF (doneB i (j + 1)) F) :=
  mask_set hi fun p q _ _ => doneB_succ i j p q
theorem fill_row {R C c d : Nat} {F : Nat → Nat → Int} {i : Nat} (h : ∀ q, c ≤ q → q < C → F i q = 0) (h2 : ∀ q, q < d → F (i + 1) q = 0) : tabF R C (maskF (doneB i c) F) = tabF R C (maskF (doneB (i + 1) d) F) := by
  apply mask_same
  intro p q hp hq
  by_cases h1 : p = i ∧ c ≤ q
  · obtain ⟨rfl, h1⟩ := h1
    exact .inr (h q h1 hq)
  · by_cases h3 : p = i + 1 ∧ q < d
    · obtain ⟨rfl, h3⟩ := h3
      exact .inr (h2 q h3)
    · left; rw [Bool.eq_iff_iff]; simp [doneB]; omega
theorem fill_zero {R C d : Nat} {F : Nat → Nat → Int} {i : Nat} (h : ∀ p q, p < i → q < C → F p q = 0) (h2 : ∀ q, q < d → F i q = 0) : tabF R C (maskF (doneB i d) F) = tabF R C (fun _ _ => 0) := by
  apply mask_none
  intro p q hp hq
  by_cases h1 : p < i
  · exact .inr (h p q h1 hq)
  · by_cases h3 : p = i ∧ q < d
    · obtain ⟨rfl, h3⟩ := h3
      exact .inr (h2 q h3)
    · left; simp [doneB]; omega
theorem fill_all {R C i : Nat} {F : Nat → Nat → Int} (h : R ≤ i) (j : Nat) : tabF R C (maskF (doneB i j) F) = tabF R C F := by
  apply mask_all
  intro p q hp hq
  left; simp [doneB]; omega
theorem mask_at_not {R C : Nat} {D : Nat → Nat → Bool} {F : Nat → Nat → Int} {i j : Nat} (hi : i < R) (hj : j < C) (h : D i j = false) : ((tabF R C (maskF D F)).getD i []).getD j 0 = 0 := by
  rw [tabF_at _ _ _ _ _ hi hj]; simp [maskF, h]

/-! ### products -/
def dotTo (F G : Nat → Nat → Int) (k i j : Nat) : Int := ((List.range k).map fun x => F i x * G x j).sum
theorem dotTo_zero (F G : Nat → Nat → Int) (i j : Nat) : dotTo F G 0 i j = 0 := rfl
theorem dotTo_succ (F G : Nat → Nat → Int) (k i j : Nat) : dotTo F G (k + 1) i j = dotTo F G k i j + F i k * G k j := by
  unfold dotTo
  rw [List.range_succ, List.map_append, List.sum_append]
  simp
theorem dotTo_bd {F G : Nat → Nat → Int} (hF : ∀ i j, 0 ≤ F i j ∧ F i j ≤ 1000000) (hG : ∀ i j, 0 ≤ G i j ∧ G i j ≤ 1000000) (i j : Nat) : ∀ k : Nat, 0 ≤ dotTo F G k i j ∧ dotTo F G k i j ≤ (k : Int) * 1000000000000
  | 0 => by simp [dotTo_zero]
  | k + 1 => by
    have ih := dotTo_bd hF hG i j k
    have h1 := mul_bd (a := 1000000) (b := 1000000) (by have := hF i k; omega) (hF i k).2 (by have := hG k j; omega) (hG k j).2
    have h2 : 0 ≤ F i k * G k j := Int.mul_nonneg (hF i k).1 (hG k j).1
    rw [dotTo_succ]
    omega
def mulM (n : Nat) (a b : List (List Int)) : List (List Int) := tabF n n (dotTo (at2 a) (at2 b) n)
def unitM (n : Nat) : List (List Int) := tabF n n fun i j => if i = j then 1 else 0
def mulO (a b : List (List Int)) : Option (List (List Int)) := if isMat a = true ∧ isMat b = true ∧ a.length = b.length ∧ isMat (mulM b.length a b) = true then some (mulM b.length a b) else none
def powM (m : List (List Int)) : Nat → Option (List (List Int))
  | 0 => some (unitM m.length)
  | k + 1 => (powM m k).bind fun x => mulO x m
/-- a row of a product, on the way -/
def lineTo (F G : Nat → Nat → Int) (n i k j : Nat) : List Int := rowF n fun q => dotTo F G (if q < j then k + 1 else k) i q
theorem lineTo_zero (F G : Nat → Nat → Int) (n i : Nat) : lineTo F G n i 0 0 = List.replicate n 0 := by
  rw [← rowF_zero]; exact rowF_congr fun q _ => by simp [dotTo_zero]
theorem lineTo_set (F G : Nat → Nat → Int) (n i k j : Nat) : (lineTo F G n i k j).set j (dotTo F G k i j + F i k * G k j) = lineTo F G n i k (j + 1) := by
  unfold lineTo
  rw [rowF_set]
  apply rowF_congr
  intro q hq
  unfold updR
  by_cases e : q = j
  · subst e; rw [if_pos rfl, if_pos (by omega), dotTo_succ]
  · rw [if_neg e]
    show dotTo F G (if q < j then k + 1 else k) i q = dotTo F G (if q < j + 1 then k + 1 else k) i q
    by_cases h : q < j
    · rw [if_pos h, if_pos (by omega)]
    · rw [if_neg h, if_neg (by omega)]
theorem lineTo_at (F G : Nat → Nat → Int) (n i k j : Nat) (h : j < n) : (lineTo F G n i k j).getD j 0 = dotTo F G k i j := by
  unfold lineTo; rw [rowF_at _ _ _ h, if_neg (by omega)]
theorem lineTo_next (F G : Nat → Nat → Int) (n i k : Nat) : lineTo F G n i k n = lineTo F G n i (k + 1) 0 := by
  unfold lineTo
  exact rowF_congr fun q hq => by rw [if_pos hq, if_neg (by omega)]
theorem lineTo_length (F G : Nat → Nat → Int) (n i k j : Nat) : (lineTo F G n i k j).length = n := rowF_length _ _
theorem lineTo_done (F G : Nat → Nat → Int) (n i k : Nat) : lineTo F G n i k 0 = rowF n (dotTo F G k i) := rowF_congr fun q _ => by rw [if_neg (by omega)]

/-- a table of products, on the way -/
def cellTo (F G : Nat → Nat → Int) (n i j k : Nat) : Nat → Nat → Int := fun p q => if doneB i j p q = true then dotTo F G n p q else if p = i ∧ q = j then dotTo F G k p q else 0
theorem cellTo_zero (F G : Nat → Nat → Int) (n R C : Nat) : tabF R C (cellTo F G n 0 0 0) = tabF R C (fun _ _ => 0) := by
  apply tabF_congr
  intro p q _ _
  have h : doneB 0 0 p q = false := by simp [doneB]
  unfold cellTo
  rw [h]
  simp [dotTo_zero]
theorem cellTo_set (F G : Nat → Nat → Int) (n R C i j k : Nat) (hi : i < R) : setM (tabF R C (cellTo F G n i j k)) i j (dotTo F G k i j + F i k * G k j) = tabF R C (cellTo F G n i j (k + 1)) := by
  rw [setM_tabF _ _ _ _ _ hi]
  apply tabF_congr
  intro p q _ _
  unfold updF cellTo
  by_cases e : p = i ∧ q = j
  · obtain ⟨rfl, rfl⟩ := e
    have h : doneB p q p q = false := by simp [doneB]
    rw [h]; simp [dotTo_succ]
  · rw [if_neg e, if_neg e, if_neg e]
theorem cellTo_at (F G : Nat → Nat → Int) (n R C i j k : Nat) (hi : i < R) (hj : j < C) : ((tabF R C (cellTo F G n i j k)).getD i []).getD j 0 = dotTo F G k i j := by
  have h : doneB i j i j = false := by simp [doneB]
  rw [tabF_at _ _ _ _ _ hi hj]
  unfold cellTo
  rw [h]; simp
theorem cellTo_col (F G : Nat → Nat → Int) (n R C i j : Nat) : tabF R C (cellTo F G n i j n) = tabF R C (cellTo F G n i (j + 1) 0) := by
  apply tabF_congr
  intro p q _ _
  unfold cellTo
  rw [doneB_succ]
  by_cases e : p = i ∧ q = j
  · obtain ⟨rfl, rfl⟩ := e
    simp
  · have e2 : (decide (p = i) && decide (q = j)) = false := by
      by_cases e1 : p = i
      · have : q ≠ j := fun e2 => e ⟨e1, e2⟩
        simp [this]
      · simp [e1]
    rw [if_neg e, e2, Bool.or_false]
    split
    · rfl
    · split
      · simp [dotTo_zero]
      · rfl
theorem cellTo_row (F G : Nat → Nat → Int) (n R C i : Nat) : tabF R C (cellTo F G n i C 0) = tabF R C (cellTo F G n (i + 1) 0 0) := by
  apply tabF_congr
  intro p q _ hq
  have h : doneB i C p q = doneB (i + 1) 0 p q := by rw [Bool.eq_iff_iff]; simp [doneB]; omega
  unfold cellTo
  rw [h]
  simp [dotTo_zero]
theorem cellTo_all (F G : Nat → Nat → Int) (n R C : Nat) : tabF R C (cellTo F G n R 0 0) = tabF R C (dotTo F G n) := by
  apply tabF_congr
  intro p q hp _
  have h : doneB R 0 p q = true := by simp [doneB]; omega
  unfold cellTo
  rw [h]; rfl
end Go.Mx

/- Plain laws: arcs of a graph, parts of a table, reachability. No dump is imported. -/
namespace Go.Mx
open Go

/-! ### arcs -/
/-- the arcs from vertex i to the vertices below j -/
def arcsRow (r : List Int) (i j : Nat) : List (List Int) := (List.range j).flatMap fun q => List.replicate (r.getD q 0).toNat [(i : Int), (q : Int)]
/-- the arcs from the vertices below i -/
def arcsTo (m : List (List Int)) (i : Nat) : List (List Int) := (List.range i).flatMap fun p => arcsRow (m.getD p []) p m.length
def arcsL (m : List (List Int)) : List (List Int) := arcsTo m m.length
def sumTo (m : List (List Int)) (i : Nat) : Int := ((List.range i).map fun p => (m.getD p []).sum).sum
def sumM (m : List (List Int)) : Int := sumTo m m.length
theorem arcsRow_succ (r : List Int) (i j : Nat) : arcsRow r i (j + 1) = arcsRow r i j ++ List.replicate (r.getD j 0).toNat [(i : Int), (j : Int)] := by
  simp [arcsRow, List.range_succ]
theorem arcsTo_succ (m : List (List Int)) (i : Nat) : arcsTo m (i + 1) = arcsTo m i ++ arcsRow (m.getD i []) i m.length := by
  simp [arcsTo, List.range_succ]
theorem sumTo_succ (m : List (List Int)) (i : Nat) : sumTo m (i + 1) = sumTo m i + (m.getD i []).sum := by
  simp [sumTo, List.range_succ]
theorem arcsRow_length {r : List Int} (h : ∀ j, 0 ≤ r.getD j 0) (i : Nat) : ∀ j, j ≤ r.length → ((arcsRow r i j).length : Int) = (r.take j).sum
  | 0, _ => by simp [arcsRow]
  | j + 1, hj => by
    have ih := arcsRow_length h i j (by omega)
    rw [arcsRow_succ, List.length_append, List.length_replicate, sum_take_succ r j (by omega)]
    have := h j
    omega
theorem IsM.nn {n : Nat} {m : List (List Int)} (h : IsM n m) (i j : Nat) : 0 ≤ ((m.getD i []).take j).sum := (sum_take_pos (m.getD i []) 1000000 (by omega) (fun q => ⟨h.low i q, h.high i q⟩) j).1
theorem IsM.sum_nn {n : Nat} {m : List (List Int)} (h : IsM n m) (i : Nat) : 0 ≤ (m.getD i []).sum := by
  have := h.nn i (m.getD i []).length
  rwa [List.take_length] at this
theorem IsM.sumTo_bd {n : Nat} {m : List (List Int)} (h : IsM n m) : ∀ i : Nat, 0 ≤ sumTo m i ∧ sumTo m i ≤ (i : Int) * 1000000000
  | 0 => by simp [sumTo]
  | i + 1 => by
    have ih := h.sumTo_bd i
    have := h.rowS_bd i
    unfold rowS at this
    rw [sumTo_succ]
    omega
theorem IsM.sumTo_mono {n : Nat} {m : List (List Int)} (h : IsM n m) (i : Nat) : ∀ k, sumTo m i ≤ sumTo m (i + k)
  | 0 => Int.le_refl _
  | k + 1 => by
    have ih := h.sumTo_mono i k
    rw [← Nat.add_assoc, sumTo_succ]
    have := h.sum_nn (i + k)
    omega
theorem IsM.arcsTo_length {n : Nat} {m : List (List Int)} (h : IsM n m) : ∀ i, i ≤ n → ((arcsTo m i).length : Int) = sumTo m i
  | 0, _ => by simp [arcsTo, sumTo]
  | i + 1, hi => by
    have ih := h.arcsTo_length i (by omega)
    have hr := arcsRow_length (r := m.getD i []) (h.low i) i (m.getD i []).length (Nat.le_refl _)
    rw [List.take_length] at hr
    rw [arcsTo_succ, List.length_append, sumTo_succ, h.len]
    rw [h.row i (by omega)] at hr
    omega
/-- on the way: rows below i, columns below j, k copies -/
def arcsAt (m : List (List Int)) (i j k : Nat) : List (List Int) := arcsTo m i ++ arcsRow (m.getD i []) i j ++ List.replicate k [(i : Int), (j : Int)]
theorem arcsAt_zero (m : List (List Int)) (i : Nat) : arcsAt m i 0 0 = arcsTo m i := by simp [arcsAt, arcsRow]
theorem arcsAt_start (m : List (List Int)) (i j : Nat) : arcsAt m i j 0 = arcsTo m i ++ arcsRow (m.getD i []) i j := by simp [arcsAt]
theorem arcsAt_succ (m : List (List Int)) (i j k : Nat) : arcsAt m i j (k + 1) = arcsAt m i j k ++ [[(i : Int), (j : Int)]] := by
  simp [arcsAt, List.replicate_succ']
theorem arcsAt_col (m : List (List Int)) (i j : Nat) (k : Nat) (hk : (k : Int) = (m.getD i []).getD j 0) : arcsAt m i j k = arcsAt m i (j + 1) 0 := by
  rw [arcsAt_start, arcsRow_succ, ← hk]
  simp [arcsAt]
theorem arcsAt_row (m : List (List Int)) (i : Nat) : arcsAt m i m.length 0 = arcsAt m (i + 1) 0 0 := by
  rw [arcsAt_zero, arcsTo_succ, arcsAt_start]
theorem IsM.arcsAt_length {n : Nat} {m : List (List Int)} (h : IsM n m) {i j k : Nat} (hi : i < n) (hj : j < n) (hk : (k : Int) ≤ (m.getD i []).getD j 0) : ((arcsAt m i j k).length : Int) ≤ sumM m := by
  have h1 := h.arcsTo_length i (by omega)
  have h2 := arcsRow_length (r := m.getD i []) (h.low i) i j (by rw [h.row i hi]; omega)
  have h3 := sum_take_succ (m.getD i []) j (by rw [h.row i hi]; omega)
  have h4 := h.sumTo_mono (i + 1) (n - (i + 1))
  rw [show i + 1 + (n - (i + 1)) = n by omega, sumTo_succ] at h4
  have h5 : ((m.getD i []).take (j + 1)).sum ≤ (m.getD i []).sum := by
    have e := congrArg List.sum (List.take_append_drop (j + 1) (m.getD i []))
    rw [List.sum_append] at e
    have h6 : ∀ l : List Int, (∀ x ∈ l, 0 ≤ x) → 0 ≤ l.sum := by
      intro l
      induction l with
      | nil => intro _; simp
      | cons a l ih =>
        intro hl
        have h7 := ih fun x hx => hl x (List.mem_cons_of_mem _ hx)
        have h8 := hl a (List.mem_cons_self ..)
        simp only [List.sum_cons]; omega
    have h9 : 0 ≤ ((m.getD i []).drop (j + 1)).sum := by
      apply h6
      intro x hx
      have hx2 := List.mem_of_mem_drop hx
      obtain ⟨q, hq, e⟩ := List.getElem_of_mem hx2
      have := h.low i q
      rw [List.getD_eq_getElem?_getD (l := m.getD i []), List.getElem?_eq_getElem hq] at this
      simp only [Option.getD_some] at this
      rw [e] at this
      exact this
    omega
  unfold sumM arcsAt
  rw [h.len, List.length_append, List.length_append, List.length_replicate]
  omega
theorem arcsL_two (m : List (List Int)) : ∀ r ∈ arcsL m, r.length = 2 := by
  intro r hr
  simp only [arcsL, arcsTo, arcsRow, List.mem_flatMap, List.mem_replicate] at hr
  obtain ⟨p, _, q, _, _, rfl⟩ := hr
  rfl
theorem arcsL_at_two (m : List (List Int)) (i : Nat) (hi : i < (arcsL m).length) : ((arcsL m).getD i []).length = 2 := by
  rw [List.getD_eq_getElem?_getD, List.getElem?_eq_getElem hi]
  exact arcsL_two m _ (List.getElem_mem hi)

/-- the graph of the arcs -/
def blkF (l : List (List Int)) (i j : Nat) : Int := if (l.getD i []).getD 1 0 = (l.getD j []).getD 0 0 then 1 else 0
def arcsG (m : List (List Int)) : List (List Int) := if isMat m = true ∧ sumM m ≤ 60 then arcsL m else []
def blkO (m : List (List Int)) : Option (List (List Int)) := if 1 ≤ (arcsG m).length ∧ (arcsG m).length ≤ 9 then some (tabF (arcsG m).length (arcsG m).length (blkF (arcsG m))) else none

/-! ### parts -/
def partL (m : List (List Int)) (l : List Int) : List (List Int) := l.map fun i => l.map fun j => (m.getD i.toNat []).getD j.toNat 0
theorem partL_length (m : List (List Int)) (l : List Int) : (partL m l).length = l.length := by simp [partL]
/-- on the way -/
def partRow (m : List (List Int)) (l : List Int) (i j : Nat) : List Int := (l.take j).map fun q => (m.getD (l.getD i 0).toNat []).getD q.toNat 0
def partTo (m : List (List Int)) (l : List Int) (i : Nat) : List (List Int) := (partL m l).take i
theorem partRow_zero (m : List (List Int)) (l : List Int) (i : Nat) : partRow m l i 0 = [] := by simp [partRow]
theorem partRow_succ (m : List (List Int)) (l : List Int) (i j : Nat) (hj : j < l.length) : partRow m l i (j + 1) = partRow m l i j ++ [(m.getD (l.getD i 0).toNat []).getD (l.getD j 0).toNat 0] := by
  unfold partRow
  rw [List.take_succ_eq_append_getElem hj, List.map_append]
  simp [List.getD_eq_getElem?_getD, List.getElem?_eq_getElem hj]
theorem partTo_zero (m : List (List Int)) (l : List Int) : partTo m l 0 = [] := by simp [partTo]
theorem partTo_succ (m : List (List Int)) (l : List Int) (i : Nat) (hi : i < l.length) : partTo m l (i + 1) = partTo m l i ++ [partRow m l i l.length] := by
  unfold partTo
  rw [List.take_succ_eq_append_getElem (by rw [partL_length]; exact hi)]
  congr 2
  simp [partL, partRow, List.getD_eq_getElem?_getD, List.getElem?_eq_getElem hi]
theorem partTo_all (m : List (List Int)) (l : List Int) : partTo m l l.length = partL m l := by
  unfold partTo; rw [List.take_of_length_le (by rw [partL_length]; exact Nat.le_refl _)]
theorem partTo_length (m : List (List Int)) (l : List Int) (i : Nat) (h : i ≤ l.length) : (partTo m l i).length = i := by
  unfold partTo; rw [List.length_take, partL_length]; omega
theorem partRow_length (m : List (List Int)) (l : List Int) (i j : Nat) (h : j ≤ l.length) : (partRow m l i j).length = j := by
  unfold partRow; rw [List.length_map, List.length_take]; omega
theorem partL_row (m : List (List Int)) (l : List Int) (i : Nat) (h : i < l.length) : (partL m l).getD i [] = l.map fun j => (m.getD (l.getD i 0).toNat []).getD j.toNat 0 := by
  simp [partL, List.getD_eq_getElem?_getD, List.getElem?_eq_getElem h]
theorem map_getD_bd {l : List Int} {f : Int → Int} {a b : Int} (ha : a ≤ 0) (hb : 0 ≤ b) (h : ∀ j, a ≤ f j ∧ f j ≤ b) (k : Nat) : a ≤ (l.map f).getD k 0 ∧ (l.map f).getD k 0 ≤ b := by
  rcases getD_mem_or (l.map f) k 0 with hm | hm
  · rw [List.mem_map] at hm
    obtain ⟨x, _, e⟩ := hm
    rw [← e]; exact h x
  · rw [hm]; exact ⟨ha, hb⟩
theorem partL_sq {b : Int} (hb : 0 ≤ b) {m : List (List Int)} (l : List Int) (h : ∀ i j, -b ≤ (m.getD i []).getD j 0 ∧ (m.getD i []).getD j 0 ≤ b) : Sq l.length b (partL m l) := by
  have hx : ∀ i j, -b ≤ ((partL m l).getD i []).getD j 0 ∧ ((partL m l).getD i []).getD j 0 ≤ b := by
    intro i j
    by_cases hi : i < l.length
    · rw [partL_row m l i hi]
      exact map_getD_bd (by omega) hb (fun q => h _ _) j
    · rw [List.getD_eq_getElem?_getD (l := partL m l), List.getElem?_eq_none (by rw [partL_length]; omega)]
      simp; omega
  exact ⟨partL_length m l, fun i hi => by rw [partL_row m l i hi, List.length_map], fun i j => (hx i j).1, fun i j => (hx i j).2⟩

/-! ### the first rows and columns; the growth -/
def natL (k : Nat) : List Int := (List.range k).map fun i : Nat => (i : Int)
theorem natL_succ (k : Nat) : natL (k + 1) = natL k ++ [(k : Int)] := by simp [natL, List.range_succ]
theorem natL_length (k : Nat) : (natL k).length = k := by simp [natL]
theorem natL_at (k j : Nat) (h : j < k) : (natL k).getD j 0 = (j : Int) := by simp [natL, List.getD_eq_getElem?_getD, h]
theorem partL_tabF (n k : Nat) (h : k ≤ n) (F : Nat → Nat → Int) : partL (tabF n n F) (natL k) = tabF k k F := by
  unfold partL natL tabF rowF
  rw [List.map_map]
  apply List.map_congr_left
  intro i hi
  have hi := List.mem_range.1 hi
  simp only [Function.comp, List.map_map]
  apply List.map_congr_left
  intro j hj
  have hj := List.mem_range.1 hj
  have e1 : ((i : Nat) : Int).toNat = i := by omega
  have e2 : ((j : Nat) : Int).toNat = j := by omega
  have := tabF_at n n F i j (by omega) (by omega)
  unfold tabF rowF at this
  simp only [Function.comp, e1, e2]
  exact this
def lessF (m : List (List Int)) (q d : Int) (i j : Nat) : Int := (if i = j then q else 0) - d * at2 m i j
/-- all the first minors up to k are greater than 0 -/
def belowTo (m : List (List Int)) (q d : Int) (k : Nat) : Bool := (List.range k).all fun i => decide (0 < detL (i + 1) (tabF (i + 1) (i + 1) (lessF m q d)))
def belowB (m : List (List Int)) (q d : Int) : Bool := belowTo m q d m.length
theorem belowTo_zero (m : List (List Int)) (q d : Int) : belowTo m q d 0 = true := rfl
theorem belowTo_succ (m : List (List Int)) (q d : Int) (k : Nat) : belowTo m q d (k + 1) = (belowTo m q d k && decide (0 < detL (k + 1) (tabF (k + 1) (k + 1) (lessF m q d)))) := by
  simp [belowTo, List.range_succ]
theorem belowB_bad {m : List (List Int)} {q d : Int} {k : Nat} (hk : k < m.length) (h : detL (k + 1) (tabF (k + 1) (k + 1) (lessF m q d)) ≤ 0) : belowB m q d = false := by
  unfold belowB belowTo
  rw [List.all_eq_false]
  exact ⟨k, List.mem_range.2 hk, by simp; omega⟩
theorem tabF_sq {n : Nat} {b : Int} (hb : 0 ≤ b) {F : Nat → Nat → Int} (h : ∀ i j, -b ≤ F i j ∧ F i j ≤ b) : Sq n b (tabF n n F) := by
  have hx : ∀ i j, -b ≤ ((tabF n n F).getD i []).getD j 0 ∧ ((tabF n n F).getD i []).getD j 0 ≤ b := by
    intro i j
    by_cases hi : i < n
    · by_cases hj : j < n
      · rw [tabF_at _ _ _ _ _ hi hj]; exact h i j
      · rw [tabF_row _ _ _ _ hi, List.getD_eq_getElem?_getD, List.getElem?_eq_none (by rw [rowF_length]; omega)]; simp; omega
    · rw [List.getD_eq_getElem?_getD (l := tabF n n F), List.getElem?_eq_none (by rw [tabF_length]; omega)]; simp; omega
  exact ⟨tabF_length _ _ _, fun i hi => by rw [tabF_row _ _ _ _ hi, rowF_length], fun i j => (hx i j).1, fun i j => (hx i j).2⟩
theorem lessF_bd {m : List (List Int)} {q d : Int} (hm : ∀ i j, 0 ≤ at2 m i j ∧ at2 m i j ≤ 9) (hq : 0 ≤ q ∧ q ≤ 4000) (hd : 0 ≤ d ∧ d ≤ 100) (i j : Nat) : -10000 ≤ lessF m q d i j ∧ lessF m q d i j ≤ 10000 := by
  have h1 := mul_bd (x := d) (y := at2 m i j) (a := 100) (b := 9) (by omega) (by omega) (by have := hm i j; omega) (hm i j).2
  unfold lessF
  split <;> omega
/-- the search by halves -/
def halve (f : Int → Bool) : Nat → Int → Int → Int
  | 0, low, _ => low
  | k + 1, low, high => if high - low > 1 then (if f ((low + high) / 2) then halve f k low ((low + high) / 2) else halve f k ((low + high) / 2) high) else low
theorem halve_done {f : Int → Bool} {low high : Int} (h : ¬ high - low > 1) : ∀ k, halve f k low high = low
  | 0 => rfl
  | k + 1 => by simp only [halve]; rw [if_neg h]
/-- more fuel changes nothing -/
theorem halve_fuel {f : Int → Bool} : ∀ (k : Nat) (low high : Int), high - low ≤ (k : Int) + 1 → halve f (k + 1) low high = halve f k low high
  | 0, low, high, h => by simp only [halve]; rw [if_neg (by omega)]
  | k + 1, low, high, h => by
    by_cases hd : high - low > 1
    · have h1 := halve_fuel (f := f) k low ((low + high) / 2) (by omega)
      have h2 := halve_fuel (f := f) k ((low + high) / 2) high (by omega)
      conv => lhs; unfold halve
      conv => rhs; unfold halve
      rw [if_pos hd, if_pos hd, h1, h2]
    · rw [halve_done hd, halve_done hd]
theorem halve_any {f : Int → Bool} (low high : Int) : ∀ (j k : Nat), high - low ≤ (k : Int) + 1 → halve f (k + j) low high = halve f k low high
  | 0, k, _ => rfl
  | j + 1, k, h => by
    rw [← Nat.add_assoc, halve_fuel (k + j) low high (by omega), halve_any low high j k h]
def floorG (m : List (List Int)) (d : Int) : Int := halve (fun q => belowB m q d) 4000 0 (36 * d + 1)
theorem halve_step {f : Int → Bool} {low high : Int} (hd : high - low > 1) (hw : high - low ≤ 4001) : halve f 4000 low high = if f ((low + high) / 2) then halve f 4000 low ((low + high) / 2) else halve f 4000 ((low + high) / 2) high := by
  have h0 : halve f 4000 low high = halve f (3999 + 1) low high := rfl
  rw [h0]
  conv => lhs; unfold halve
  rw [if_pos hd]
  have h1 := halve_fuel (f := f) 3999 low ((low + high) / 2) (by omega)
  have h2 := halve_fuel (f := f) 3999 ((low + high) / 2) high (by omega)
  rw [← h1, ← h2]
end Go.Mx

/- Plain laws: sums of principal minors, and the polynomial of them. No dump is imported. -/
namespace Go.Mx
open Go

def bitsL (s n : Nat) : List Int := ((List.range n).filter fun i => decide (s / 2 ^ i % 2 = 1)).map fun i : Nat => (i : Int)
theorem bitsL_yes (s n : Nat) (h : s / 2 ^ n % 2 = 1) : bitsL s (n + 1) = bitsL s n ++ [(n : Int)] := by
  simp [bitsL, List.range_succ, List.filter_append, h]
theorem bitsL_no (s n : Nat) (h : ¬ s / 2 ^ n % 2 = 1) : bitsL s (n + 1) = bitsL s n := by
  simp [bitsL, List.range_succ, List.filter_append, h]
theorem bitsL_zero (s : Nat) : bitsL s 0 = [] := rfl
theorem bitsL_length (s n : Nat) : (bitsL s n).length ≤ n := by
  unfold bitsL
  rw [List.length_map]
  have := List.length_filter_le (fun i => decide (s / 2 ^ i % 2 = 1)) (List.range n)
  rwa [List.length_range] at this
theorem bitsL_bd (s n j : Nat) (h : j < (bitsL s n).length) : ∃ i : Nat, (bitsL s n).getD j 0 = (i : Int) ∧ i < n := by
  have hm : (bitsL s n).getD j 0 ∈ bitsL s n := by
    rw [List.getD_eq_getElem?_getD, List.getElem?_eq_getElem h]; exact List.getElem_mem h
  simp only [bitsL, List.mem_map, List.mem_filter, List.mem_range] at hm
  obtain ⟨i, ⟨h1, _⟩, e⟩ := hm
  exact ⟨i, e.symm, h1⟩
def chTo (n k s : Nat) : List (List Int) := ((List.range s).filter fun x => decide ((bitsL x n).length = k)).map fun x => bitsL x n
theorem chTo_zero (n k : Nat) : chTo n k 0 = [] := rfl
theorem chTo_yes (n k s : Nat) (h : (bitsL s n).length = k) : chTo n k (s + 1) = chTo n k s ++ [bitsL s n] := by
  simp [chTo, List.range_succ, List.filter_append, h]
theorem chTo_no (n k s : Nat) (h : ¬ (bitsL s n).length = k) : chTo n k (s + 1) = chTo n k s := by
  simp [chTo, List.range_succ, List.filter_append, h]
theorem chTo_length (n k s : Nat) : (chTo n k s).length ≤ s := by
  unfold chTo
  rw [List.length_map]
  have := List.length_filter_le (fun x => decide ((bitsL x n).length = k)) (List.range s)
  rwa [List.length_range] at this
def chL (n k : Nat) : List (List Int) := chTo n k (2 ^ n)
theorem chL_mem {n k : Nat} {l : List Int} (h : l ∈ chL n k) : ∃ x, l = bitsL x n ∧ l.length = k := by
  simp only [chL, chTo, List.mem_map, List.mem_filter, decide_eq_true_eq] at h
  obtain ⟨x, ⟨_, h1⟩, rfl⟩ := h
  exact ⟨x, rfl, h1⟩
theorem chL_at {n k i : Nat} (h : i < (chL n k).length) : ∃ x, (chL n k).getD i [] = bitsL x n ∧ (bitsL x n).length = k := by
  have hm : (chL n k).getD i [] ∈ chL n k := by
    rw [List.getD_eq_getElem?_getD, List.getElem?_eq_getElem h]; exact List.getElem_mem h
  obtain ⟨x, h1, h2⟩ := chL_mem hm
  exact ⟨x, h1, by rw [← h1]; exact h2⟩
/-- the sum of the principal minors of a size, over the first sets -/
def pmTo (m : List (List Int)) (k s : Nat) : Int := ((List.range s).map fun x => if (bitsL x m.length).length = k then detL k (partL m (bitsL x m.length)) else 0).sum
theorem pmTo_zero (m : List (List Int)) (k : Nat) : pmTo m k 0 = 0 := rfl
theorem pmTo_yes (m : List (List Int)) (k s : Nat) (h : (bitsL s m.length).length = k) : pmTo m k (s + 1) = pmTo m k s + detL k (partL m (bitsL s m.length)) := by
  simp [pmTo, List.range_succ, h]
theorem pmTo_no (m : List (List Int)) (k s : Nat) (h : ¬ (bitsL s m.length).length = k) : pmTo m k (s + 1) = pmTo m k s := by
  simp [pmTo, List.range_succ, h]
def pmS (m : List (List Int)) (k : Nat) : Int := pmTo m k (2 ^ m.length)
def detSum (m : List (List Int)) (k : Nat) (L : List (List Int)) (c : Nat) : Int := ((L.take c).map fun l => detL k (partL m l)).sum
theorem detSum_zero (m : List (List Int)) (k : Nat) (L : List (List Int)) : detSum m k L 0 = 0 := by simp [detSum]
theorem detSum_succ (m : List (List Int)) (k : Nat) (L : List (List Int)) (c : Nat) (h : c < L.length) : detSum m k L (c + 1) = detSum m k L c + detL k (partL m (L.getD c [])) := by
  unfold detSum
  rw [List.take_succ_eq_append_getElem h, List.map_append, List.sum_append]
  simp [List.getD_eq_getElem?_getD, List.getElem?_eq_getElem h]
theorem chTo_sum (m : List (List Int)) (k : Nat) : ∀ s, ((chTo m.length k s).map fun l => detL k (partL m l)).sum = pmTo m k s
  | 0 => rfl
  | s + 1 => by
    have ih := chTo_sum m k s
    by_cases h : (bitsL s m.length).length = k
    · rw [chTo_yes _ _ _ h, pmTo_yes _ _ _ h, List.map_append, List.sum_append, ih]; simp
    · rw [chTo_no _ _ _ h, pmTo_no _ _ _ h, ih]
theorem detSum_all (m : List (List Int)) (k : Nat) : detSum m k (chL m.length k) (chL m.length k).length = pmS m k := by
  unfold detSum
  rw [List.take_length]
  exact chTo_sum m k _
/-- bounds -/
theorem minor_bd {m : List (List Int)} (h : ∀ i j, -10000 ≤ (m.getD i []).getD j 0 ∧ (m.getD i []).getD j 0 ≤ 10000) (l : List Int) (k : Nat) (hk : l.length = k) (h4 : k ≤ 4) : -240000000000000000 ≤ detL k (partL m l) ∧ detL k (partL m l) ≤ 240000000000000000 := by
  have hs := partL_sq (b := 10000) (by omega) (m := m) l h
  rw [hk] at hs
  have h1 := detL_bd (b := 10000) (by omega) hs
  have h2 := detB_4 h4
  omega
theorem pmTo_bd {m : List (List Int)} (h : ∀ i j, -10000 ≤ (m.getD i []).getD j 0 ∧ (m.getD i []).getD j 0 ≤ 10000) (k : Nat) (h4 : k ≤ 4) : ∀ s : Nat, -((s : Int) * 240000000000000000) ≤ pmTo m k s ∧ pmTo m k s ≤ (s : Int) * 240000000000000000
  | 0 => by simp [pmTo_zero]
  | s + 1 => by
    have ih := pmTo_bd h k h4 s
    by_cases he : (bitsL s m.length).length = k
    · rw [pmTo_yes _ _ _ he]
      have := minor_bd h (bitsL s m.length) k he h4
      omega
    · rw [pmTo_no _ _ _ he]; omega
theorem detSum_bd {m : List (List Int)} (h : ∀ i j, -10000 ≤ (m.getD i []).getD j 0 ∧ (m.getD i []).getD j 0 ≤ 10000) (k : Nat) (h4 : k ≤ 4) (L : List (List Int)) (hL : ∀ l ∈ L, l.length = k) : ∀ c : Nat, -((c : Int) * 240000000000000000) ≤ detSum m k L c ∧ detSum m k L c ≤ (c : Int) * 240000000000000000
  | 0 => by simp [detSum_zero]
  | c + 1 => by
    have ih := detSum_bd h k h4 L hL c
    by_cases hc : c < L.length
    · rw [detSum_succ _ _ _ _ hc]
      have hm : L.getD c [] ∈ L := by rw [List.getD_eq_getElem?_getD, List.getElem?_eq_getElem hc]; exact List.getElem_mem hc
      have := minor_bd h (L.getD c []) k (hL _ hm) h4
      omega
    · have e : detSum m k L (c + 1) = detSum m k L c := by
        unfold detSum
        rw [List.take_of_length_le (by omega), List.take_of_length_le (by omega)]
      rw [e]; omega
def cpF (m : List (List Int)) (k : Nat) : Int := sgn k * pmS m k
def cpL (m : List (List Int)) : List Int := rowF (m.length + 1) fun p => cpF m (m.length - p)
def tpL (m : List (List Int)) : List Int := rowF (m.length + 1) fun p => cpF m p
/-- the program's list on the way: the sizes below K done, of size K the first c sets -/
def cpTo (m : List (List Int)) (K c : Nat) : List Int := rowF (m.length + 1) fun p => if m.length - p < K then cpF m (m.length - p) else if m.length - p = K then sgn K * detSum m K (chL m.length K) c else 0
theorem cpTo_zero (m : List (List Int)) : cpTo m 0 0 = List.replicate (m.length + 1) 0 := by
  rw [← rowF_zero]
  apply rowF_congr
  intro p hp
  rw [if_neg (by omega), detSum_zero]; simp
theorem cpTo_at (m : List (List Int)) (K c : Nat) (hK : K ≤ m.length) : (cpTo m K c).getD (m.length - K) 0 = sgn K * detSum m K (chL m.length K) c := by
  unfold cpTo
  rw [rowF_at _ _ _ (by omega), if_neg (by omega), if_pos (by omega)]
theorem cpTo_set (m : List (List Int)) (K c : Nat) (hK : K ≤ m.length) (hc : c < (chL m.length K).length) : (cpTo m K c).set (m.length - K) (sgn K * detSum m K (chL m.length K) c + sgn K * detL K (partL m ((chL m.length K).getD c []))) = cpTo m K (c + 1) := by
  unfold cpTo
  rw [rowF_set]
  apply rowF_congr
  intro p hp
  unfold updR
  by_cases e : p = m.length - K
  · rw [if_pos e, if_neg (by omega), if_pos (by omega), detSum_succ _ _ _ _ hc, Int.mul_add]
  · rw [if_neg e]
    show (if m.length - p < K then cpF m (m.length - p) else if m.length - p = K then sgn K * detSum m K (chL m.length K) c else 0) = _
    by_cases h : m.length - p < K
    · rw [if_pos h, if_pos h]
    · rw [if_neg h, if_neg h, if_neg (by omega), if_neg (by omega)]
theorem cpTo_next (m : List (List Int)) (K : Nat) : cpTo m K (chL m.length K).length = cpTo m (K + 1) 0 := by
  unfold cpTo
  apply rowF_congr
  intro p hp
  by_cases h : m.length - p < K
  · rw [if_pos h, if_pos (by omega)]
  · rw [if_neg h]
    by_cases h2 : m.length - p = K
    · rw [if_pos h2, if_pos (by omega), detSum_all, h2]; rfl
    · rw [if_neg h2, if_neg (by omega)]
      split
      · rw [detSum_zero]; simp
      · rfl
theorem cpTo_all (m : List (List Int)) (c : Nat) : cpTo m (m.length + 1) c = cpL m := by
  apply rowF_congr
  intro p hp
  rw [if_pos (by omega)]
theorem cpTo_length (m : List (List Int)) (K c : Nat) : (cpTo m K c).length = m.length + 1 := rowF_length _ _
/-- the reference's list on the way -/
def cqTo (m : List (List Int)) (K : Nat) : List Int := rowF (m.length + 1) fun p => if m.length - p < K then cpF m (m.length - p) else 0
theorem cqTo_zero (m : List (List Int)) : cqTo m 0 = List.replicate (m.length + 1) 0 := by
  rw [← rowF_zero]; exact rowF_congr fun p _ => by rw [if_neg (by omega)]
theorem cqTo_set (m : List (List Int)) (K : Nat) (hK : K ≤ m.length) : (cqTo m K).set (m.length - K) (cpF m K) = cqTo m (K + 1) := by
  unfold cqTo
  rw [rowF_set]
  apply rowF_congr
  intro p hp
  unfold updR
  by_cases e : p = m.length - K
  · rw [if_pos e, if_pos (by omega)]; congr 1; omega
  · rw [if_neg e]
    show (if m.length - p < K then cpF m (m.length - p) else 0) = _
    by_cases h : m.length - p < K
    · rw [if_pos h, if_pos (by omega)]
    · rw [if_neg h, if_neg (by omega)]
theorem cqTo_all (m : List (List Int)) : cqTo m (m.length + 1) = cpL m := rowF_congr fun p hp => by rw [if_pos (by omega)]
theorem cqTo_length (m : List (List Int)) (K : Nat) : (cqTo m K).length = m.length + 1 := rowF_length _ _
/-- turned -/
theorem cpL_at (m : List (List Int)) (p : Nat) (h : p ≤ m.length) : (cpL m).getD p 0 = cpF m (m.length - p) := rowF_at _ _ _ (by omega)
theorem tpTo_succ (m : List (List Int)) (k : Nat) : rowF (k + 1) (fun p => cpF m p) = rowF k (fun p => cpF m p) ++ [cpF m k] := rowF_succ k _
end Go.Mx

/- Plain laws: determinants of tables of at most four rows; sums of principal minors. No dump is imported. -/
namespace Go.Mx
open Go

/-- a table without its first row and a column -/
def skipF (F : Nat → Nat → Int) (j : Nat) : Nat → Nat → Int := fun p q => F (p + 1) (if q < j then q else q + 1)
def detF : Nat → (Nat → Nat → Int) → Int
  | 0, _ => 1
  | n + 1, F => ((List.range (n + 1)).map fun j => sgn j * F 0 j * detF n (skipF F j)).sum
theorem rowF_erase (n j : Nat) (hj : j < n + 1) (f : Nat → Int) : (rowF (n + 1) f).eraseIdx j = rowF n (fun q => f (if q < j then q else q + 1)) := by
  refine List.ext_getElem ?_ fun i h1 h2 => ?_
  · rw [List.length_eraseIdx, rowF_length, rowF_length, if_pos hj]; rfl
  · rw [List.getElem_eraseIdx]
    split <;> simp [rowF, *]
theorem minor_tabF (n : Nat) (F : Nat → Nat → Int) (j : Nat) (hj : j < n + 1) : minor (tabF (n + 1) (n + 1) F) j = tabF n n (skipF F j) := by
  unfold minor tabF
  rw [List.range_succ_eq_map, List.map_cons, List.drop_one, List.tail_cons, List.map_map, List.map_map]
  apply List.map_congr_left
  intro i _
  exact rowF_erase n j hj _
theorem detL_tabF : ∀ (n : Nat) (F : Nat → Nat → Int), detL n (tabF n n F) = detF n F
  | 0, _ => rfl
  | n + 1, F => by
    unfold detL detF
    congr 1
    apply List.map_congr_left
    intro j hj
    have hj := List.mem_range.1 hj
    rw [minor_tabF _ _ _ hj, detL_tabF n, tabF_at _ _ _ _ _ (by omega) hj]
theorem detF_congr {n : Nat} {F G : Nat → Nat → Int} (h : ∀ i j, i < n → j < n → F i j = G i j) : detF n F = detF n G := by
  rw [← detL_tabF, ← detL_tabF, tabF_congr h]
theorem detF_1 (F : Nat → Nat → Int) : detF 1 F = F 0 0 := by simp [detF, sgn]
theorem detF_2 (F : Nat → Nat → Int) : detF 2 F = F 0 0 * F 1 1 - F 0 1 * F 1 0 := by
  have h : detF 2 F = ((List.range 2).map fun j => sgn j * F 0 j * detF 1 (skipF F j)).sum := rfl
  rw [h]
  simp [List.range_succ, sgn, detF_1, skipF]
  grind
theorem detF_3 (F : Nat → Nat → Int) : detF 3 F = F 0 0 * (F 1 1 * F 2 2 - F 1 2 * F 2 1) - F 0 1 * (F 1 0 * F 2 2 - F 1 2 * F 2 0) + F 0 2 * (F 1 0 * F 2 1 - F 1 1 * F 2 0) := by
  have h : detF 3 F = ((List.range 3).map fun j => sgn j * F 0 j * detF 2 (skipF F j)).sum := rfl
  rw [h]
  simp [List.range_succ, sgn, detF_2, skipF]
  grind
theorem detF_4 (F : Nat → Nat → Int) : detF 4 F = F 0 0 * detF 3 (skipF F 0) - F 0 1 * detF 3 (skipF F 1) + F 0 2 * detF 3 (skipF F 2) - F 0 3 * detF 3 (skipF F 3) := by
  have h : detF 4 F = ((List.range 4).map fun j => sgn j * F 0 j * detF 3 (skipF F j)).sum := rfl
  rw [h]
  simp [List.range_succ, sgn]
  grind
/-- turned -/
theorem detF_turn {n : Nat} (hn : n ≤ 4) (F : Nat → Nat → Int) : detF n (fun i j => F j i) = detF n F := by
  match n, hn with
  | 0, _ => rfl
  | 1, _ => rw [detF_1, detF_1]
  | 2, _ => rw [detF_2, detF_2]; grind
  | 3, _ => rw [detF_3, detF_3]; grind
  | 4, _ =>
    rw [detF_4, detF_4]
    simp only [detF_3]
    simp [skipF]
    grind
/-- one row and column less: all multiplied by the corner -/
def lessS (F : Nat → Nat → Int) (i j : Nat) : Int := F 0 0 * F (i + 1) (j + 1) - F (i + 1) 0 * F 0 (j + 1)
theorem chio_1 (F : Nat → Nat → Int) : detF 1 (lessS F) = detF 2 F := by rw [detF_1, detF_2]; unfold lessS; grind
theorem chio_2 (F : Nat → Nat → Int) : detF 2 (lessS F) = F 0 0 * detF 3 F := by rw [detF_2, detF_3]; unfold lessS; grind
theorem chio_3 (F : Nat → Nat → Int) : detF 3 (lessS F) = F 0 0 * (F 0 0 * detF 4 F) := by
  rw [detF_4]
  simp only [detF_3]
  simp [skipF, lessS]
  grind

/-! ### turned tables -/
def turnM (m : List (List Int)) : List (List Int) := tabF m.length m.length fun i j => at2 m j i
theorem turnM_at (m : List (List Int)) (i j : Nat) (hi : i < m.length) (hj : j < m.length) : at2 (turnM m) i j = at2 m j i := tabF_at _ _ _ _ _ hi hj
theorem turnM_length (m : List (List Int)) : (turnM m).length = m.length := tabF_length _ _ _
theorem partL_tab (m : List (List Int)) (l : List Int) : partL m l = tabF l.length l.length fun i j => at2 m (l.getD i 0).toNat (l.getD j 0).toNat := by
  unfold partL tabF rowF
  refine List.ext_getElem (by simp) fun i h1 h2 => ?_
  simp only [List.length_map] at h1
  simp only [List.getElem_map, List.getElem_range]
  refine List.ext_getElem (by simp) fun j h3 h4 => ?_
  simp only [List.length_map] at h3
  simp only [List.getElem_map, List.getElem_range]
  simp [at2, List.getD_eq_getElem?_getD, List.getElem?_eq_getElem h1, List.getElem?_eq_getElem h3]
theorem part_turn {m : List (List Int)} {l : List Int} (h4 : l.length ≤ 4) (hl : ∀ j, j < l.length → (l.getD j 0).toNat < m.length) : detL l.length (partL (turnM m) l) = detL l.length (partL m l) := by
  rw [partL_tab, partL_tab, detL_tabF, detL_tabF, ← detF_turn h4]
  exact detF_congr fun i j hi hj => turnM_at _ _ _ (hl j hj) (hl i hi)
theorem pmS_turn {m : List (List Int)} (h4 : m.length ≤ 4) (k : Nat) : pmS (turnM m) k = pmS m k := by
  unfold pmS pmTo
  rw [turnM_length]
  congr 1
  apply List.map_congr_left
  intro s _
  by_cases hk : (bitsL s m.length).length = k
  · rw [if_pos hk, if_pos hk, ← hk]
    have hle := bitsL_length s m.length
    refine part_turn (by omega) fun j hj => ?_
    obtain ⟨i, h1, h2⟩ := bitsL_bd s m.length j hj
    rw [h1]; omega
  · rw [if_neg hk, if_neg hk]
theorem cpL_turn {m : List (List Int)} (h4 : m.length ≤ 4) : cpL (turnM m) = cpL m := by
  unfold cpL
  rw [turnM_length]
  apply rowF_congr
  intro p _
  unfold cpF
  rw [pmS_turn h4]
theorem detL_turn {m : List (List Int)} (h4 : m.length ≤ 4) (hm : tabF m.length m.length (at2 m) = m) : detL m.length (turnM m) = detL m.length m := by
  conv => rhs; rw [← hm]
  unfold turnM
  rw [detL_tabF, tabF_length, detL_tabF]
  exact detF_turn h4 _

/-! ### sums of principal minors -/
theorem pmS_list (m : List (List Int)) (k : Nat) : pmS m k = ((chL m.length k).map fun l => detL k (partL m l)).sum := by
  rw [← detSum_all]
  unfold detSum
  rw [List.take_length]
theorem pmS_zero {m : List (List Int)} (h4 : m.length ≤ 4) : pmS m 0 = 1 := by
  rw [pmS_list]
  have h : chL m.length 0 = [[]] := by
    generalize m.length = n at h4
    match n, h4 with
    | 0, _ => rfl
    | 1, _ => rfl
    | 2, _ => rfl
    | 3, _ => rfl
    | 4, _ => rfl
  rw [h]; rfl
theorem pmS_full {m : List (List Int)} (h4 : m.length ≤ 4) (hm : tabF m.length m.length (at2 m) = m) : pmS m m.length = detL m.length m := by
  rw [pmS_list]
  have h : chL m.length m.length = [natL m.length] := by
    generalize m.length = n at h4
    match n, h4 with
    | 0, _ => rfl
    | 1, _ => rfl
    | 2, _ => rfl
    | 3, _ => rfl
    | 4, _ => rfl
  rw [h]
  have e : partL m (natL m.length) = m := by
    have := partL_tabF m.length m.length (Nat.le_refl _) (at2 m)
    rwa [hm] at this
  simp [e]
def trM (m : List (List Int)) : Int := ((List.range m.length).map fun i => at2 m i i).sum
theorem pmS_one {m : List (List Int)} (h4 : m.length ≤ 4) : pmS m 1 = trM m := by
  rw [pmS_list]
  have h : chL m.length 1 = (List.range m.length).map fun i : Nat => [(i : Int)] := by
    generalize m.length = n at h4
    match n, h4 with
    | 0, _ => rfl
    | 1, _ => rfl
    | 2, _ => rfl
    | 3, _ => rfl
    | 4, _ => rfl
  unfold trM
  rw [h, List.map_map]
  congr 1
  apply List.map_congr_left
  intro i _
  show detL 1 (partL m [(i : Int)]) = _
  have := partL_tab m [(i : Int)]
  rw [this]
  show detL 1 (tabF 1 1 _) = _
  rw [detL_tabF, detF_1]
  simp
theorem sum_map_bd {α : Type} (f : α → Int) (B : Int) : ∀ (l : List α), (∀ x ∈ l, -B ≤ f x ∧ f x ≤ B) → -((l.length : Int) * B) ≤ (l.map f).sum ∧ (l.map f).sum ≤ (l.length : Int) * B
  | [], _ => by simp
  | a :: l, h => by
    have ih := sum_map_bd f B l fun x hx => h x (List.mem_cons_of_mem _ hx)
    have ha := h a (by simp)
    have e : ((a :: l).length : Int) * B = (l.length : Int) * B + B := by
      rw [List.length_cons, show ((l.length + 1 : Nat) : Int) = (l.length : Int) + 1 by omega, Int.add_mul, Int.one_mul]
    rw [List.map_cons, List.sum_cons, e]
    omega
theorem pmS_bd {m : List (List Int)} (h4 : m.length ≤ 4) (h9 : ∀ i j, 0 ≤ at2 m i j ∧ at2 m i j ≤ 9) (k : Nat) (hk : k ≤ m.length) : -1000000 ≤ pmS m k ∧ pmS m k ≤ 1000000 := by
  rw [pmS_list]
  have h1 := sum_map_bd (fun l => detL k (partL m l)) (detB 9 k) (chL m.length k) (fun l hl => by
    obtain ⟨x, -, hx⟩ := chL_mem hl
    have hs := partL_sq (b := 9) (by omega) (m := m) l (fun i j => by have := h9 i j; unfold at2 at this; omega)
    rw [hx] at hs
    exact detL_bd (by omega) hs)
  have h2 : ((chL m.length k).length : Int) * detB 9 k ≤ 1000000 := by
    clear h1
    generalize m.length = n at h4 hk
    match n, k, h4, hk with
    | 0, 0, _, _ => decide
    | 1, 0, _, _ => decide
    | 1, 1, _, _ => decide
    | 2, 0, _, _ => decide
    | 2, 1, _, _ => decide
    | 2, 2, _, _ => decide
    | 3, 0, _, _ => decide
    | 3, 1, _, _ => decide
    | 3, 2, _, _ => decide
    | 3, 3, _, _ => decide
    | 4, 0, _, _ => decide
    | 4, 1, _, _ => decide
    | 4, 2, _, _ => decide
    | 4, 3, _, _ => decide
    | 4, 4, _, _ => decide
  omega
end Go.Mx

/- Plain laws: first minors of a Z-matrix of at most four rows and positive vectors. No dump is imported. -/
namespace Go.Mx
open Go

def sumT : Nat → (Nat → Int) → Int
  | 0, _ => 0
  | n + 1, f => f 0 + sumT n fun j => f (j + 1)
theorem sumT_congr : ∀ {n : Nat} {f g : Nat → Int}, (∀ j, j < n → f j = g j) → sumT n f = sumT n g
  | 0, _, _, _ => rfl
  | n + 1, f, g, h => by
    simp only [sumT]
    rw [h 0 (by omega), sumT_congr (n := n) (f := fun j => f (j + 1)) (g := fun j => g (j + 1)) fun j hj => h (j + 1) (by omega)]
theorem sumT_add : ∀ (n : Nat) (f g : Nat → Int), sumT n (fun j => f j + g j) = sumT n f + sumT n g
  | 0, _, _ => rfl
  | n + 1, f, g => by
    have := sumT_add n (fun j => f (j + 1)) (fun j => g (j + 1))
    simp only [sumT] at this ⊢
    omega
theorem sumT_mul : ∀ (n : Nat) (c : Int) (f : Nat → Int), sumT n (fun j => c * f j) = c * sumT n f
  | 0, _, _ => by simp [sumT]
  | n + 1, c, f => by
    have := sumT_mul n c (fun j => f (j + 1))
    simp only [sumT] at this ⊢
    rw [this, Int.mul_add]
theorem sumT_le : ∀ {n : Nat} {f g : Nat → Int}, (∀ j, j < n → f j ≤ g j) → sumT n f ≤ sumT n g
  | 0, _, _, _ => Int.le_refl _
  | n + 1, f, g, h => by
    have h0 := h 0 (by omega)
    have := sumT_le (n := n) (f := fun j => f (j + 1)) (g := fun j => g (j + 1)) fun j hj => h (j + 1) (by omega)
    simp only [sumT]
    omega
theorem sumT_zero : ∀ n : Nat, sumT n (fun _ => 0) = 0
  | 0 => rfl
  | n + 1 => by simp only [sumT, sumT_zero n]; rfl
theorem sumT_nn {n : Nat} {f : Nat → Int} (h : ∀ j, j < n → 0 ≤ f j) : 0 ≤ sumT n f := by
  have := sumT_le (f := fun _ => 0) (g := f) h
  rwa [sumT_zero] at this
theorem sumT_np {n : Nat} {f : Nat → Int} (h : ∀ j, j < n → f j ≤ 0) : sumT n f ≤ 0 := by
  have := sumT_le (f := f) (g := fun _ => 0) h
  rwa [sumT_zero] at this
theorem sumT_ge : ∀ {n : Nat} {f : Nat → Int}, (∀ j, j < n → 0 ≤ f j) → ∀ j, j < n → f j ≤ sumT n f
  | n + 1, f, h, 0, _ => by
    have := sumT_nn (n := n) (f := fun j => f (j + 1)) fun j hj => h (j + 1) (by omega)
    simp only [sumT]; omega
  | n + 1, f, h, j + 1, hj => by
    have h0 := h 0 (by omega)
    have := sumT_ge (n := n) (f := fun j => f (j + 1)) (fun j hj => h (j + 1) (by omega)) j (by omega)
    simp only [sumT]; omega
theorem sumT_last : ∀ (n : Nat) (f : Nat → Int), sumT (n + 1) f = sumT n f + f n
  | 0, f => by simp [sumT]
  | n + 1, f => by
    have := sumT_last n fun j => f (j + 1)
    rw [sumT, this, sumT]
    omega
theorem sumT_range (n : Nat) (f : Nat → Int) : ((List.range n).map f).sum = sumT n f := by
  induction n with
  | zero => rfl
  | succ n ih => rw [List.range_succ, List.map_append, List.sum_append, ih, sumT_last]; simp
theorem sumT_filter (n : Nat) (p : Nat → Bool) (f : Nat → Int) : (((List.range n).filter p).map f).sum = sumT n fun j => if p j = true then f j else 0 := by
  induction n with
  | zero => rfl
  | succ n ih =>
    rw [List.range_succ, List.filter_append, List.map_append, List.sum_append, ih, sumT_last]
    cases h : p n <;> simp [h]
theorem sumT_list : ∀ l : List Int, l.sum = sumT l.length fun j => l.getD j 0
  | [] => rfl
  | a :: l => by
    have := sumT_list l
    simp only [List.sum_cons, List.length_cons, sumT, List.getD_cons_zero, List.getD_cons_succ]
    omega
theorem sumT_pick : ∀ (n i : Nat) (c : Int) (x : Nat → Int), i < n → sumT n (fun j => (if i = j then c else 0) * x j) = c * x i
  | n + 1, 0, c, x, _ => by
    have : sumT n (fun j => (if 0 = j + 1 then c else 0) * x (j + 1)) = 0 := by
      rw [sumT_congr (g := fun _ => 0) fun j _ => by rw [if_neg (by omega), Int.zero_mul], sumT_zero]
    simp only [sumT]
    rw [this]; simp
  | n + 1, i + 1, c, x, h => by
    have := sumT_pick n i c (fun j => x (j + 1)) (by omega)
    simp only [sumT]
    rw [if_neg (by omega), Int.zero_mul, Int.zero_add]
    rw [← this]
    apply sumT_congr
    intro j _
    by_cases e : i = j
    · rw [if_pos e, if_pos (by omega)]
    · rw [if_neg e, if_neg (by omega)]
/-- sums are exchanged -/
theorem sumT_swap (n : Nat) : ∀ (k : Nat) (f : Nat → Nat → Int), sumT n (fun j => sumT k fun i => f i j) = sumT k fun i => sumT n fun j => f i j
  | 0, _ => sumT_zero n
  | k + 1, f => by
    have := sumT_swap n k fun i j => f (i + 1) j
    simp only [sumT]
    rw [sumT_add, this]
def mulN (n : Nat) (F : Nat → Nat → Int) (x : Nat → Int) (i : Nat) : Int := sumT n fun j => F i j * x j

def Lead (n : Nat) (F : Nat → Nat → Int) : Prop := ∀ k, k < n → 0 < detF (k + 1) F
def PosV (n : Nat) (F : Nat → Nat → Int) : Prop := ∃ x : Nat → Int, (∀ j, j < n → 0 < x j) ∧ ∀ i, i < n → 0 < mulN n F x i
def ZF (n : Nat) (F : Nat → Nat → Int) : Prop := ∀ i j, i < n → j < n → i ≠ j → F i j ≤ 0
theorem pos_of_mul {a b : Int} (ha : 0 < a) (h : 0 < a * b) : 0 < b := by
  by_cases hb : 0 < b
  · exact hb
  · have := Int.mul_le_mul_of_nonneg_left (show b ≤ 0 by omega) (Int.le_of_lt ha)
    rw [Int.mul_zero] at this
    omega
theorem mul_np {a b : Int} (ha : a ≤ 0) (hb : 0 ≤ b) : a * b ≤ 0 := by
  have := Int.mul_nonneg (show 0 ≤ -a by omega) hb
  rw [Int.neg_mul] at this
  omega
theorem mul_nn' {a b : Int} (ha : a ≤ 0) (hb : b ≤ 0) : 0 ≤ a * b := by
  have := Int.mul_nonneg (show 0 ≤ -a by omega) (show 0 ≤ -b by omega)
  rw [Int.neg_mul_neg] at this
  exact this
theorem lead_succ {n : Nat} (hn : n ≤ 3) (F : Nat → Nat → Int) : Lead (n + 1) F ↔ 0 < F 0 0 ∧ Lead n (lessS F) := by
  constructor
  · intro h
    have h0 : 0 < F 0 0 := by have := h 0 (by omega); rwa [detF_1] at this
    refine ⟨h0, fun k hk => ?_⟩
    match k, hk with
    | 0, hk => rw [chio_1]; exact h 1 (by omega)
    | 1, hk => rw [chio_2]; exact Int.mul_pos h0 (h 2 (by omega))
    | 2, hk => rw [chio_3]; exact Int.mul_pos h0 (Int.mul_pos h0 (h 3 (by omega)))
    | k + 3, hk => omega
  · rintro ⟨h0, h⟩ k hk
    match k, hk with
    | 0, hk => rw [detF_1]; exact h0
    | 1, hk => have := h 0 (by omega); rwa [chio_1] at this
    | 2, hk => have := h 1 (by omega); rw [chio_2] at this; exact pos_of_mul h0 this
    | 3, hk => have := h 2 (by omega); rw [chio_3] at this; exact pos_of_mul h0 (pos_of_mul h0 this)
    | k + 4, hk => omega
theorem mul_lessS (n : Nat) (F : Nat → Nat → Int) (y : Nat → Int) (i : Nat) : mulN n (lessS F) y i = F 0 0 * sumT n (fun j => F (i + 1) (j + 1) * y j) - F (i + 1) 0 * sumT n (fun j => F 0 (j + 1) * y j) := by
  have e : mulN n (lessS F) y i = sumT n (fun j => F 0 0 * (F (i + 1) (j + 1) * y j) + (- F (i + 1) 0) * (F 0 (j + 1) * y j)) := by
    apply sumT_congr
    intro j _
    unfold lessS
    grind
  rw [e, sumT_add, sumT_mul, sumT_mul]
  grind
/-- a Z-matrix: its first minors are positive exactly if it takes some positive vector to a positive one -/
theorem lead_pos : ∀ (n : Nat), n ≤ 4 → ∀ F : Nat → Nat → Int, ZF n F → (Lead n F ↔ PosV n F)
  | 0, _, F, _ => ⟨fun _ => ⟨fun _ => 1, fun j hj => by omega, fun i hi => by omega⟩, fun _ k hk => by omega⟩
  | n + 1, hn, F, hz => by
    rw [lead_succ (by omega)]
    have hb : ∀ j, j < n → F 0 (j + 1) ≤ 0 := fun j hj => hz 0 (j + 1) (by omega) (by omega) (by omega)
    have hc : ∀ i, i < n → F (i + 1) 0 ≤ 0 := fun j hj => hz (j + 1) 0 (by omega) (by omega) (by omega)
    have hzs : 0 < F 0 0 → ZF n (lessS F) := fun ha i j hi hj hij => by
      have h1 := Int.mul_nonneg (Int.le_of_lt ha) (show 0 ≤ - F (i + 1) (j + 1) by have := hz (i + 1) (j + 1) (by omega) (by omega) (by omega); omega)
      have h2 := mul_nn' (hc i hi) (hb j hj)
      rw [Int.mul_neg] at h1
      unfold lessS
      omega
    constructor
    · rintro ⟨ha, hl⟩
      obtain ⟨y, hy, hp⟩ := (lead_pos n (by omega) _ (hzs ha)).1 hl
      obtain ⟨Y, hY⟩ : ∃ Y, Y = sumT n fun j => F 0 (j + 1) * y j := ⟨_, rfl⟩
      obtain ⟨t, ht⟩ : ∃ t, t = 1 + sumT n fun i => - F (i + 1) 0 := ⟨_, rfl⟩
      obtain ⟨a, hA⟩ : ∃ a, a = F 0 0 := ⟨_, rfl⟩
      have hY0 : Y ≤ 0 := by
        rw [hY]
        exact sumT_np fun j hj => mul_np (hb j hj) (Int.le_of_lt (hy j hj))
      have ht1 : 1 ≤ t := by
        have := sumT_nn (n := n) (f := fun i => - F (i + 1) 0) fun i hi => by have := hc i hi; omega
        omega
      have htc : ∀ i, i < n → 1 - F (i + 1) 0 ≤ t := fun i hi => by
        have := sumT_ge (n := n) (f := fun i => - F (i + 1) 0) (fun i hi => by have := hc i hi; omega) i hi
        omega
      rw [← hA] at ha
      have hs : ∀ i, sumT n (fun j => F i (j + 1) * (a * t * y j)) = a * t * sumT n fun j => F i (j + 1) * y j := fun i => by
        rw [← sumT_mul]
        exact sumT_congr fun j _ => by grind
      refine ⟨fun j => match j with | 0 => -(Y * t) + 1 | j + 1 => a * t * y j, fun j hj => ?_, fun i hi => ?_⟩
      · match j, hj with
        | 0, _ =>
          have := mul_np hY0 (show 0 ≤ t by omega)
          show 0 < -(Y * t) + 1
          omega
        | j + 1, hj => exact Int.mul_pos (Int.mul_pos ha (by omega)) (hy j (by omega))
      · match i, hi with
        | 0, _ =>
          show 0 < F 0 0 * (-(Y * t) + 1) + sumT n (fun j => F 0 (j + 1) * (a * t * y j))
          rw [hs, ← hY, ← hA]
          have e : a * (-(Y * t) + 1) + a * t * Y = a := by grind
          rw [e]; exact ha
        | i + 1, hi =>
          show 0 < F (i + 1) 0 * (-(Y * t) + 1) + sumT n (fun j => F (i + 1) (j + 1) * (a * t * y j))
          rw [hs]
          have hpi := hp i (by omega)
          rw [mul_lessS, ← hY, ← hA] at hpi
          have h2 := htc i (by omega)
          generalize sumT n (fun j => F (i + 1) (j + 1) * y j) = T at hpi ⊢
          generalize F (i + 1) 0 = c at hpi h2 ⊢
          have e : c * (-(Y * t) + 1) + a * t * T = t * (a * T - c * Y) + c := by grind
          rw [e]
          have := Int.mul_le_mul_of_nonneg_left (show 1 ≤ a * T - c * Y by omega) (show 0 ≤ t by omega)
          rw [Int.mul_one] at this
          omega
    · rintro ⟨x, hx, hp⟩
      have hx0 := hx 0 (by omega)
      obtain ⟨X, hX⟩ : ∃ X, X = sumT n fun j => F 0 (j + 1) * x (j + 1) := ⟨_, rfl⟩
      have hX0 : X ≤ 0 := by
        rw [hX]
        exact sumT_np fun j hj => mul_np (hb j hj) (Int.le_of_lt (hx (j + 1) (by omega)))
      have hp0 : 0 < F 0 0 * x 0 + X := by
        have := hp 0 (by omega)
        rw [hX]
        exact this
      have ha : 0 < F 0 0 := by
        have h1 : 0 < x 0 * F 0 0 := by rw [Int.mul_comm]; omega
        exact pos_of_mul hx0 h1
      refine ⟨ha, (lead_pos n (by omega) _ (hzs ha)).2 ⟨fun j => x (j + 1), fun j hj => hx (j + 1) (by omega), fun i hi => ?_⟩⟩
      rw [mul_lessS, ← hX]
      have hpi : 0 < F (i + 1) 0 * x 0 + sumT n (fun j => F (i + 1) (j + 1) * x (j + 1)) := hp (i + 1) (by omega)
      have hci := hc i hi
      generalize sumT n (fun j => F (i + 1) (j + 1) * x (j + 1)) = T at hpi ⊢
      generalize F (i + 1) 0 = c at hpi hci ⊢
      have h1 := Int.mul_pos ha hpi
      have h2 := Int.mul_nonneg (show 0 ≤ -c by omega) (Int.le_of_lt hp0)
      have e : F 0 0 * T - c * X = F 0 0 * (c * x 0 + T) + -c * (F 0 0 * x 0 + X) := by grind
      rw [e]
      omega
end Go.Mx

/- Plain laws on polynomials: values, products, the cut at the end. No dump is imported. -/
namespace Go.Mx
open Go

/-- at most so many numbers within a million -/
def numOk (x : Int) : Bool := decide (-1000000 ≤ x ∧ x ≤ 1000000)
def numsOk (most : Nat) (p : List Int) : Bool := decide (p.length ≤ most) && p.all numOk
theorem numsOk_yes {most : Nat} {p : List Int} (h : numsOk most p = true) : p.length ≤ most ∧ ∀ j, -1000000 ≤ p.getD j 0 ∧ p.getD j 0 ≤ 1000000 := by
  simp only [numsOk, Bool.and_eq_true, decide_eq_true_eq] at h
  refine ⟨h.1, fun j => ?_⟩
  rcases getD_mem_or p j 0 with hj | hj
  · have := List.all_eq_true.1 h.2 _ hj
    simpa [numOk] using this
  · rw [hj]; omega
theorem numsOk_long {most : Nat} {p : List Int} (h : ¬ p.length ≤ most) : numsOk most p = false := by unfold numsOk; rw [decide_eq_false h]; rfl
theorem numsOk_bad {most : Nat} {p : List Int} {k : Nat} (hk : k < p.length) (h : numOk (p.getD k 0) = false) : numsOk most p = false := by
  unfold numsOk; rw [all_bad (p := numOk) 0 hk h, Bool.and_false]
theorem numsOk_all {most : Nat} {p : List Int} (h : p.length ≤ most) (h2 : (p.take p.length).all numOk = true) : numsOk most p = true := by
  unfold numsOk; rw [decide_eq_true h, all_done h2]; rfl

/-! ### values -/
def polyV (x : Int) : List Int → Int
  | [] => 0
  | c :: p => polyV x p * x + c
def polyB : Nat → Int
  | 0 => 0
  | n + 1 => polyB n * 1000 + 1000000
theorem polyV_bd {x : Int} (hx : -1000 ≤ x ∧ x ≤ 1000) : ∀ {p : List Int}, (∀ j, -1000000 ≤ p.getD j 0 ∧ p.getD j 0 ≤ 1000000) → -(polyB p.length) ≤ polyV x p ∧ polyV x p ≤ polyB p.length
  | [], _ => by simp [polyV, polyB]
  | c :: p, h => by
    have ih := polyV_bd hx (p := p) (fun j => by simpa using h (j + 1))
    have h0 := h 0
    simp only [List.getD_cons_zero] at h0
    have := mul_bd ih.1 ih.2 hx.1 hx.2
    simp only [polyV, polyB, List.length_cons]
    omega
theorem polyB_5 {n : Nat} (h : n ≤ 5) : polyB n ≤ 1001001001001000000 := by
  match n, h with
  | 0, _ => decide
  | 1, _ => decide
  | 2, _ => decide
  | 3, _ => decide
  | 4, _ => decide
  | 5, _ => decide
theorem polyB_le4 {n : Nat} (h : n ≤ 4) : polyB n ≤ 1001001001000000 := by
  match n, h with
  | 0, _ => decide
  | 1, _ => decide
  | 2, _ => decide
  | 3, _ => decide
  | 4, _ => decide
theorem drop_getD (p : List Int) (k : Nat) (h : k < p.length) : p.drop k = p.getD k 0 :: p.drop (k + 1) := by
  rw [List.drop_eq_getElem_cons h]
  simp [List.getD_eq_getElem?_getD, List.getElem?_eq_getElem h]
theorem getD_drop (p : List Int) (k j : Nat) : (p.drop k).getD j 0 = p.getD (k + j) 0 := by simp [List.getD_eq_getElem?_getD]
/-- what the loop has when the places from k on are done -/
theorem polyV_step (x : Int) (p : List Int) (k : Nat) (h : k < p.length) : polyV x (p.drop k) = polyV x (p.drop (k + 1)) * x + p.getD k 0 := by
  rw [drop_getD p k h]; rfl
theorem polyV_drop_bd {x : Int} (hx : -1000 ≤ x ∧ x ≤ 1000) {p : List Int} (hp : ∀ j, -1000000 ≤ p.getD j 0 ∧ p.getD j 0 ≤ 1000000) (h5 : p.length ≤ 5) (k : Nat) : -1001001001001000000 ≤ polyV x (p.drop k) ∧ polyV x (p.drop k) ≤ 1001001001001000000 := by
  have h1 := polyV_bd hx (p := p.drop k) (fun j => by rw [getD_drop]; exact hp _)
  have h2 := polyB_5 (n := (p.drop k).length) (by rw [List.length_drop]; omega)
  omega
theorem polyV_mul_bd {x : Int} (hx : -1000 ≤ x ∧ x ≤ 1000) {p : List Int} (hp : ∀ j, -1000000 ≤ p.getD j 0 ∧ p.getD j 0 ≤ 1000000) (h5 : p.length ≤ 5) (k : Nat) : -1001001001000000000 ≤ polyV x (p.drop (k + 1)) * x ∧ polyV x (p.drop (k + 1)) * x ≤ 1001001001000000000 := by
  have h1 := polyV_bd hx (p := p.drop (k + 1)) (fun j => by rw [getD_drop]; exact hp _)
  have h2 := polyB_le4 (n := (p.drop (k + 1)).length) (by rw [List.length_drop]; omega)
  have := mul_bd (a := 1001001001000000) (b := 1000) (x := polyV x (p.drop (k + 1))) (y := x) (by omega) (by omega) hx.1 hx.2
  omega

/-! ### the cut at the end -/
def trimN (p : List Int) : Nat → Nat
  | 0 => 0
  | n + 1 => if p.getD n 0 = 0 then trimN p n else n + 1
def trimL (p : List Int) : List Int := p.take (trimN p p.length)
theorem trimN_le (p : List Int) : ∀ n, trimN p n ≤ n
  | 0 => Nat.le_refl _
  | n + 1 => by
    unfold trimN
    have := trimN_le p n
    split <;> omega
theorem trimN_zero {p : List Int} {n : Nat} (h : p.getD n 0 = 0) : trimN p (n + 1) = trimN p n := by simp only [trimN, if_pos h]
theorem trimN_stop {p : List Int} {n : Nat} (h : ¬ p.getD n 0 = 0) : trimN p (n + 1) = n + 1 := by simp only [trimN, if_neg h]
theorem trimN_snoc (p : List Int) (x : Int) : ∀ n, n ≤ p.length → trimN (p ++ [x]) n = trimN p n
  | 0, _ => rfl
  | n + 1, h => by
    have e : (p ++ [x]).getD n 0 = p.getD n 0 := by simp [List.getD_eq_getElem?_getD, List.getElem?_append_left (show n < p.length by omega)]
    simp only [trimN, e, trimN_snoc p x n (by omega)]
theorem trimL_snoc (p : List Int) : trimL (p ++ [0]) = trimL p := by
  unfold trimL
  rw [List.length_append, List.length_singleton]
  have e : (p ++ [(0 : Int)]).getD p.length 0 = 0 := by simp [List.getD_eq_getElem?_getD]
  rw [trimN_zero e, trimN_snoc p 0 p.length (Nat.le_refl _), List.take_append_of_le_length (trimN_le p _)]

/-! ### products -/
def addAt (l : List Int) (j : Nat) (y : Int) : List Int := l.set j (l.getD j 0 + y)
theorem addAt_length (l : List Int) (j : Nat) (y : Int) : (addAt l j y).length = l.length := by simp [addAt]
def mulRow (l : List Int) (x : Int) (b : List Int) (i : Nat) : Nat → List Int
  | 0 => l
  | k + 1 => addAt (mulRow l x b i k) (i + k) (x * b.getD k 0)
def mulTo (N : Nat) (a b : List Int) : Nat → List Int
  | 0 => List.replicate N 0
  | i + 1 => mulRow (mulTo N a b i) (a.getD i 0) b i b.length
theorem mulRow_length (l : List Int) (x : Int) (b : List Int) (i : Nat) : ∀ k, (mulRow l x b i k).length = l.length
  | 0 => rfl
  | k + 1 => by rw [mulRow, addAt_length, mulRow_length l x b i k]
theorem mulTo_length (N : Nat) (a b : List Int) : ∀ i, (mulTo N a b i).length = N
  | 0 => by simp [mulTo]
  | i + 1 => by rw [mulTo, mulRow_length, mulTo_length N a b i]
theorem addAt_snoc (l : List Int) (z : Int) (j : Nat) (y : Int) (h : j < l.length) : addAt (l ++ [z]) j y = addAt l j y ++ [z] := by
  unfold addAt
  rw [List.set_append_left _ _ h]
  congr 2
  simp [List.getD_eq_getElem?_getD, List.getElem?_append_left h]
theorem mulRow_snoc (l : List Int) (z x : Int) (b : List Int) (i : Nat) : ∀ k, i + k ≤ l.length → mulRow (l ++ [z]) x b i k = mulRow l x b i k ++ [z]
  | 0, _ => rfl
  | k + 1, h => by
    rw [mulRow, mulRow_snoc l z x b i k (by omega), addAt_snoc _ _ _ _ (by rw [mulRow_length]; omega)]
    rfl
theorem mulTo_snoc (N : Nat) (a b : List Int) : ∀ i, i + b.length ≤ N + 1 → mulTo (N + 1) a b i = mulTo N a b i ++ [0]
  | 0, _ => by simp only [mulTo]; exact List.replicate_succ'
  | i + 1, h => by
    rw [mulTo, mulTo_snoc N a b i (by omega), mulRow_snoc _ _ _ _ _ _ (by rw [mulTo_length]; omega)]
    rfl
theorem addAt_bd {l : List Int} {M Y : Int} (j : Nat) {y : Int} (hM : 0 ≤ M) (hY : 0 ≤ Y) (h : ∀ q, -M ≤ l.getD q 0 ∧ l.getD q 0 ≤ M) (hy : -Y ≤ y ∧ y ≤ Y) : ∀ q, -(M + Y) ≤ (addAt l j y).getD q 0 ∧ (addAt l j y).getD q 0 ≤ M + Y := by
  intro q
  unfold addAt
  have hq := h q
  have hj := h j
  by_cases e : j = q
  · subst e
    by_cases hl : j < l.length
    · have e2 : (l.set j (l.getD j 0 + y)).getD j 0 = l.getD j 0 + y := by rw [List.getD_eq_getElem?_getD, List.getElem?_set_self hl]; rfl
      rw [e2]; omega
    · have e2 : (l.set j (l.getD j 0 + y)).getD j 0 = 0 := by rw [List.getD_eq_getElem?_getD, List.getElem?_eq_none (by rw [List.length_set]; omega)]; rfl
      rw [e2]; omega
  · have e2 : (l.set j (l.getD j 0 + y)).getD q 0 = l.getD q 0 := by rw [List.getD_eq_getElem?_getD, List.getElem?_set_ne e, ← List.getD_eq_getElem?_getD]
    rw [e2]; omega
theorem mulRow_bd {l : List Int} {M x : Int} {b : List Int} (i : Nat) (hM : 0 ≤ M) (h : ∀ q, -M ≤ l.getD q 0 ∧ l.getD q 0 ≤ M) (hx : -1000000 ≤ x ∧ x ≤ 1000000) (hb : ∀ j, -1000000 ≤ b.getD j 0 ∧ b.getD j 0 ≤ 1000000) :
    ∀ (k : Nat) (q : Nat), -(M + 1000000000000 * (k : Int)) ≤ (mulRow l x b i k).getD q 0 ∧ (mulRow l x b i k).getD q 0 ≤ M + 1000000000000 * (k : Int)
  | 0, q => by have := h q; simp only [mulRow]; omega
  | k + 1, q => by
    have ih := mulRow_bd i hM h hx hb k
    have hm := mul_bd (a := 1000000) (b := 1000000) hx.1 hx.2 (hb k).1 (hb k).2
    have := addAt_bd (i + k) (by omega) (show (0 : Int) ≤ 1000000000000 by omega) ih (show -1000000000000 ≤ x * b.getD k 0 ∧ x * b.getD k 0 ≤ 1000000000000 by omega) q
    simp only [mulRow]
    omega
theorem mulTo_bd {N : Nat} {a b : List Int} (ha : ∀ j, -1000000 ≤ a.getD j 0 ∧ a.getD j 0 ≤ 1000000) (hb : ∀ j, -1000000 ≤ b.getD j 0 ∧ b.getD j 0 ≤ 1000000) (hl : b.length ≤ 30) :
    ∀ (i : Nat) (q : Nat), -(30000000000000 * (i : Int)) ≤ (mulTo N a b i).getD q 0 ∧ (mulTo N a b i).getD q 0 ≤ 30000000000000 * (i : Int)
  | 0, q => by
    have : (mulTo N a b 0).getD q 0 = 0 := by
      simp only [mulTo]
      rcases getD_mem_or (List.replicate N (0 : Int)) q 0 with h | h
      · exact List.eq_of_mem_replicate h
      · exact h
    rw [this]; omega
  | i + 1, q => by
    have ih := mulTo_bd (N := N) ha hb hl i
    have := mulRow_bd (l := mulTo N a b i) i (by omega) ih (ha i) hb b.length q
    simp only [mulTo]
    omega
end Go.Mx
namespace Go.Mx
theorem trimN_zeros (N : Nat) : ∀ n, n ≤ N → trimN (List.replicate N 0) n = 0
  | 0, _ => rfl
  | n + 1, h => by
    have e : (List.replicate N (0 : Int)).getD n 0 = 0 := by
      rcases getD_mem_or (List.replicate N (0 : Int)) n 0 with h | h
      · exact List.eq_of_mem_replicate h
      · exact h
    rw [trimN_zero e, trimN_zeros N n (by omega)]
theorem trimL_zeros (N : Nat) : trimL (List.replicate N 0) = [] := by
  unfold trimL
  rw [List.length_replicate, trimN_zeros N N (Nat.le_refl _)]; rfl
theorem mulTo_none (N : Nat) (a : List Int) : ∀ i, mulTo N a [] i = List.replicate N 0
  | 0 => rfl
  | i + 1 => by rw [mulTo, mulTo_none N a i]; rfl
/-- the product, if the numbers are right -/
def polyMul (a b : List Int) : List Int := if (numsOk 30 a && numsOk 30 b) = true then trimL (mulTo (a.length + b.length) a b a.length) else []
theorem polyMul_no {a b : List Int} (h : (numsOk 30 a && numsOk 30 b) = false) : polyMul a b = [] := by unfold polyMul; rw [if_neg (by rw [h]; simp)]
theorem polyMul_yes {a b : List Int} (ha : numsOk 30 a = true) (hb : numsOk 30 b = true) : polyMul a b = trimL (mulTo (a.length + b.length) a b a.length) := by unfold polyMul; rw [if_pos (by rw [ha, hb]; rfl)]
theorem polyMul_empty {a b : List Int} (h : a.length = 0 ∨ b.length = 0) : polyMul a b = [] := by
  unfold polyMul
  split
  · rcases h with h | h
    · rw [h]; exact trimL_zeros _
    · have hb : b = [] := List.eq_nil_of_length_eq_zero h
      subst hb
      rw [mulTo_none]; exact trimL_zeros _
  · rfl
theorem polyMul_less {a b : List Int} (ha : numsOk 30 a = true) (hb : numsOk 30 b = true) {N : Nat} (hN : a.length + b.length = N + 1) : polyMul a b = trimL (mulTo N a b a.length) := by
  rw [polyMul_yes ha hb, hN, mulTo_snoc N a b a.length (by omega), trimL_snoc]
theorem mulRow_at {N : Nat} {a b : List Int} (ha : ∀ j, -1000000 ≤ a.getD j 0 ∧ a.getD j 0 ≤ 1000000) (hb : ∀ j, -1000000 ≤ b.getD j 0 ∧ b.getD j 0 ≤ 1000000) (hla : a.length ≤ 30) (hlb : b.length ≤ 30) (i k q : Nat) (hi : i < a.length) (hk : k < b.length) :
    -1800000000000000 ≤ (mulRow (mulTo N a b i) (a.getD i 0) b i k).getD q 0 ∧ (mulRow (mulTo N a b i) (a.getD i 0) b i k).getD q 0 ≤ 1800000000000000 := by
  have h1 := mulTo_bd (N := N) ha hb hlb i
  have h2 := mulRow_bd (l := mulTo N a b i) i (by omega) h1 (ha i) hb k q
  omega
end Go.Mx

/- Plain laws: values of products of polynomials; the first numbers of a matrix's polynomials. No dump is imported. -/
namespace Go.Mx
open Go

theorem polyV_snoc (x : Int) (c : Int) : ∀ p : List Int, polyV x (p ++ [c]) = polyV x p + c * x ^ p.length
  | [] => by simp [polyV]
  | a :: p => by
    have ih := polyV_snoc x c p
    simp only [List.cons_append, polyV, List.length_cons, ih, Int.pow_succ]
    grind
theorem polyV_zeros (x : Int) : ∀ n, polyV x (List.replicate n 0) = 0
  | 0 => rfl
  | n + 1 => by simp [List.replicate_succ, polyV, polyV_zeros x n]
theorem polyV_trimN (x : Int) (p : List Int) : ∀ n, n ≤ p.length → polyV x (p.take (trimN p n)) = polyV x (p.take n)
  | 0, _ => rfl
  | n + 1, h => by
    by_cases h0 : p.getD n 0 = 0
    · have e : p[n] = 0 := by
        rw [List.getD_eq_getElem?_getD, List.getElem?_eq_getElem (by omega)] at h0
        exact h0
      rw [trimN_zero h0, polyV_trimN x p n (by omega), List.take_succ_eq_append_getElem (by omega), polyV_snoc, e]
      simp
    · rw [trimN_stop h0]
theorem polyV_trim (x : Int) (p : List Int) : polyV x (trimL p) = polyV x p := by
  unfold trimL
  rw [polyV_trimN x p _ (Nat.le_refl _), List.take_length]
theorem polyV_addAt (x y : Int) : ∀ (l : List Int) (j : Nat), j < l.length → polyV x (addAt l j y) = polyV x l + y * x ^ j
  | a :: l, 0, _ => by simp [addAt, polyV]; grind
  | a :: l, j + 1, h => by
    have ih := polyV_addAt x y l j (by simpa using h)
    have e : addAt (a :: l) (j + 1) y = a :: addAt l j y := by simp [addAt]
    rw [e]
    simp only [polyV, ih, Int.pow_succ]
    grind
theorem polyV_take (x : Int) (b : List Int) (k : Nat) (h : k < b.length) : polyV x (b.take (k + 1)) = polyV x (b.take k) + b.getD k 0 * x ^ k := by
  rw [List.take_succ_eq_append_getElem h, polyV_snoc, List.length_take, Nat.min_eq_left (by omega)]
  simp [List.getD_eq_getElem?_getD, List.getElem?_eq_getElem h]
theorem polyV_mulRow (x y : Int) (l b : List Int) (i : Nat) : ∀ k, k ≤ b.length → i + k ≤ l.length → polyV x (mulRow l y b i k) = polyV x l + y * x ^ i * polyV x (b.take k)
  | 0, _, _ => by simp [mulRow, polyV]
  | k + 1, hk, h => by
    have ih := polyV_mulRow x y l b i k (by omega) (by omega)
    rw [mulRow, polyV_addAt _ _ _ _ (by rw [mulRow_length]; omega), ih, polyV_take x b k (by omega), Int.pow_add]
    grind
theorem polyV_mulTo (x : Int) (N : Nat) (a b : List Int) : ∀ i, i ≤ a.length → i + b.length ≤ N + 1 → polyV x (mulTo N a b i) = polyV x (a.take i) * polyV x b
  | 0, _, _ => by simp [mulTo, polyV, polyV_zeros]
  | i + 1, hi, h => by
    have ih := polyV_mulTo x N a b i (by omega) (by omega)
    rw [mulTo, polyV_mulRow _ _ _ _ _ _ (Nat.le_refl _) (by rw [mulTo_length]; omega), ih, List.take_length, polyV_take x a i (by omega)]
    grind
/-- a product's value -/
theorem polyV_mul (x : Int) {a b : List Int} (ha : numsOk 30 a = true) (hb : numsOk 30 b = true) : polyV x (polyMul a b) = polyV x a * polyV x b := by
  rw [polyMul_yes ha hb, polyV_trim, polyV_mulTo _ _ _ _ _ (Nat.le_refl _) (by omega), List.take_length]
theorem numsOk_more {a : List Int} (h : numsOk 5 a = true) : numsOk 30 a = true := by
  simp only [numsOk, Bool.and_eq_true, decide_eq_true_eq] at h ⊢
  exact ⟨by omega, h.2⟩
/-- how great a value at 2 may be -/
theorem polyV_two {p : List Int} (h : numsOk 5 p = true) : -31000000 ≤ polyV 2 p ∧ polyV 2 p ≤ 31000000 := by
  obtain ⟨h5, hb⟩ := numsOk_yes h
  have key : ∀ (p : List Int) (M : Int), 0 ≤ M → (∀ j, -1000000 ≤ p.getD j 0 ∧ p.getD j 0 ≤ 1000000) → -(1000000 * (2 ^ p.length - 1)) ≤ polyV 2 p ∧ polyV 2 p ≤ 1000000 * (2 ^ p.length - 1) := by
    intro p
    induction p with
    | nil => intro M _ _; simp [polyV]
    | cons c p ih =>
      intro M hM hp
      have h0 := hp 0
      simp only [List.getD_cons_zero] at h0
      have h1 := ih M hM (fun j => by simpa using hp (j + 1))
      simp only [polyV, List.length_cons, Int.pow_succ]
      omega
  have h1 := key p 0 (by omega) hb
  have h2 : (2 : Int) ^ p.length ≤ 32 := by
    generalize p.length = n at h5
    match n, h5 with
    | 0, _ => decide
    | 1, _ => decide
    | 2, _ => decide
    | 3, _ => decide
    | 4, _ => decide
    | 5, _ => decide
  omega
theorem polyV_zero (p : List Int) : polyV 0 p = p.getD 0 0 := by
  cases p with
  | nil => rfl
  | cons c p => simp [polyV]

/-! ### a small matrix's polynomials -/
theorem cpL_length (m : List (List Int)) : (cpL m).length = m.length + 1 := rowF_length _ _
theorem cpL_nums {m : List (List Int)} (h4 : m.length ≤ 4) (h9 : ∀ i j, 0 ≤ at2 m i j ∧ at2 m i j ≤ 9) : numsOk 5 (cpL m) = true := by
  simp only [numsOk, Bool.and_eq_true, decide_eq_true_eq, cpL_length, List.all_eq_true]
  refine ⟨by omega, fun y hy => ?_⟩
  simp only [cpL, rowF, List.mem_map, List.mem_range] at hy
  obtain ⟨p, hp, rfl⟩ := hy
  have h1 := pmS_bd h4 h9 (m.length - p) (by omega)
  unfold cpF numOk
  rcases sgn_or (m.length - p) with h | h <;> rw [h] <;> simp <;> omega
theorem cpL_last {m : List (List Int)} (h4 : m.length ≤ 4) : (cpL m).getD m.length 0 = 1 := by
  rw [cpL_at m m.length (Nat.le_refl _), Nat.sub_self]
  unfold cpF
  rw [pmS_zero h4]; rfl
theorem cpL_first {m : List (List Int)} (h4 : m.length ≤ 4) (hm : tabF m.length m.length (at2 m) = m) : (cpL m).getD 0 0 = sgn m.length * detL m.length m := by
  rw [cpL_at m 0 (by omega), Nat.sub_zero]
  unfold cpF
  rw [pmS_full h4 hm]
theorem cpL_trace {m : List (List Int)} (h4 : m.length ≤ 4) (h1 : 1 ≤ m.length) : (cpL m).getD (m.length - 1) 0 = - trM m := by
  rw [cpL_at m (m.length - 1) (by omega), show m.length - (m.length - 1) = 1 by omega]
  unfold cpF
  rw [pmS_one h4, show sgn 1 = -1 from rfl]
  omega
theorem tpL_head {m : List (List Int)} (h4 : m.length ≤ 4) : 0 < (trimL (tpL m)).length ∧ (trimL (tpL m)).getD 0 0 = 1 := by
  have h0 : (tpL m).getD 0 0 = 1 := by
    unfold tpL
    rw [rowF_at _ _ _ (by omega)]
    unfold cpF
    rw [pmS_zero h4]; rfl
  have hl : (tpL m).length = m.length + 1 := rowF_length _ _
  have key : ∀ n, 1 ≤ n → 1 ≤ trimN (tpL m) n := by
    intro n
    induction n with
    | zero => intro h; omega
    | succ n ih =>
      intro _
      by_cases e : (tpL m).getD n 0 = 0
      · rw [trimN_zero e]
        cases n with
        | zero => rw [h0] at e; omega
        | succ n => exact ih (by omega)
      · rw [trimN_stop e]; omega
  have h1 := key (tpL m).length (by omega)
  unfold trimL
  refine ⟨by rw [List.length_take]; omega, ?_⟩
  rw [List.getD_eq_getElem?_getD, List.getElem?_take_of_lt (by omega), ← List.getD_eq_getElem?_getD, h0]
theorem isSm_nine {m : List (List Int)} (h : isSm m = true) : m.length ≤ 4 ∧ 1 ≤ m.length ∧ (∀ i j, 0 ≤ at2 m i j ∧ at2 m i j ≤ 9) ∧ tabF m.length m.length (at2 m) = m := by
  obtain ⟨h1, h2, h3⟩ := isSm_yes h
  exact ⟨h2, h1.pos, fun i j => ⟨h1.low i j, h3 i j⟩, h1.tab⟩
theorem isSm_turn {m : List (List Int)} (h : isSm m = true) : isSm (turnM m) = true := by
  obtain ⟨h4, h1, h9, ht⟩ := isSm_nine h
  have hmat : isMat (turnM m) = true := tabF_isMat h1 (by omega) fun i j _ _ => by have := h9 j i; omega
  unfold isSm
  rw [hmat, turnM_length, decide_eq_true h4, Bool.true_and, Bool.true_and, List.all_eq_true]
  intro r hr
  simp only [turnM, tabF, rowF, List.mem_map, List.mem_range] at hr
  obtain ⟨i, hi, rfl⟩ := hr
  unfold lowOk
  rw [List.all_eq_true]
  intro x hx
  simp only [List.mem_map, List.mem_range] at hx
  obtain ⟨j, hj, rfl⟩ := hx
  have := (h9 j i).2
  simpa using this
theorem cpL_turned {m : List (List Int)} (h : isSm m = true) : cpL (turnM m) = cpL m := cpL_turn (isSm_nine h).1
end Go.Mx

/- Plain laws: paths between vertices, and the sets of vertices that reach each other. No dump is imported. -/
namespace Go.Mx
open Go

/-- between which vertices there are paths by way of vertices below k -/
def warF (M : Nat → Nat → Bool) : Nat → Nat → Nat → Bool
  | 0, i, j => M i j
  | k + 1, i, j => warF M k i j || (warF M k i k && warF M k k j)
theorem war_to (M : Nat → Nat → Bool) (k i : Nat) : warF M (k + 1) i k = warF M k i k := by
  simp only [warF]; cases warF M k i k <;> simp
theorem war_from (M : Nat → Nat → Bool) (k j : Nat) : warF M (k + 1) k j = warF M k k j := by
  simp only [warF]; cases warF M k k j <;> simp
theorem war_mono (M : Nat → Nat → Bool) (k i j : Nat) (h : warF M k i j = true) : warF M (k + 1) i j = true := by simp [warF, h]
theorem war_trans (M : Nat → Nat → Bool) : ∀ (k x i j : Nat), x < k → warF M k i x = true → warF M k x j = true → warF M k i j = true
  | k + 1, x, i, j, hx, h1, h2 => by
    by_cases e : x = k
    · subst e
      rw [war_to] at h1
      rw [war_from] at h2
      simp [warF, h1, h2]
    · have IH := fun i j => war_trans M k x i j (by omega)
      simp only [warF, Bool.or_eq_true, Bool.and_eq_true] at h1 h2 ⊢
      rcases h1 with h1 | ⟨h1, h1'⟩ <;> rcases h2 with h2 | ⟨h2, h2'⟩
      · exact .inl (IH i j h1 h2)
      · exact .inr ⟨IH i k h1 h2, h2'⟩
      · exact .inr ⟨h1, IH k j h1' h2⟩
      · exact .inr ⟨h1, h2'⟩
theorem war_first (M : Nat → Nat → Bool) : ∀ (k i j : Nat), warF M k i j = true → ∃ x, M i x = true ∧ (x = j ∨ warF M k x j = true)
  | 0, i, j, h => ⟨j, h, .inl rfl⟩
  | k + 1, i, j, h => by
    simp only [warF, Bool.or_eq_true, Bool.and_eq_true] at h
    rcases h with h | ⟨h1, h2⟩
    · obtain ⟨x, hx, hy⟩ := war_first M k i j h
      exact ⟨x, hx, hy.imp id fun h => war_mono M k x j h⟩
    · obtain ⟨x, hx, hy⟩ := war_first M k i k h1
      refine ⟨x, hx, .inr ?_⟩
      rcases hy with rfl | hy
      · exact war_mono M x x j h2
      · simp [warF, hy, h2]
theorem war_base (M : Nat → Nat → Bool) (i j : Nat) (h : M i j = true) : ∀ k, warF M k i j = true
  | 0 => h
  | k + 1 => war_mono M k i j (war_base M i j h k)

def b2i (b : Bool) : Int := if b = true then 1 else 0
/-- in place: stage k, the entries before (i, j) done -/
def warTo (M : Nat → Nat → Bool) (k i j p q : Nat) : Int := b2i (if doneB i j p q = true then warF M (k + 1) p q else warF M k p q)
theorem warTo_start (M : Nat → Nat → Bool) (n k : Nat) : tabF n n (warTo M k 0 0) = tabF n n fun p q => b2i (warF M k p q) := by
  apply tabF_congr
  intro p q _ _
  have h : doneB 0 0 p q = false := by simp [doneB]
  unfold warTo; rw [h]; rfl
theorem warTo_set (M : Nat → Nat → Bool) (n k i j : Nat) (hi : i < n) : setM (tabF n n (warTo M k i j)) i j (b2i (warF M (k + 1) i j)) = tabF n n (warTo M k i (j + 1)) := by
  rw [setM_tabF _ _ _ _ _ hi]
  apply tabF_congr
  intro p q _ _
  unfold updF warTo
  rw [doneB_succ]
  by_cases e : p = i ∧ q = j
  · obtain ⟨rfl, rfl⟩ := e
    simp
  · have e2 : (decide (p = i) && decide (q = j)) = false := by
      by_cases e1 : p = i
      · have : q ≠ j := fun e2 => e ⟨e1, e2⟩
        simp [this]
      · simp [e1]
    rw [if_neg e, e2, Bool.or_false]
theorem warTo_row (M : Nat → Nat → Bool) (n k i : Nat) : tabF n n (warTo M k i n) = tabF n n (warTo M k (i + 1) 0) := by
  apply tabF_congr
  intro p q _ hq
  have h : doneB i n p q = doneB (i + 1) 0 p q := by rw [Bool.eq_iff_iff]; simp [doneB]; omega
  unfold warTo; rw [h]
theorem warTo_next (M : Nat → Nat → Bool) (n k : Nat) : tabF n n (warTo M k n 0) = tabF n n (warTo M (k + 1) 0 0) := by
  rw [warTo_start]
  apply tabF_congr
  intro p q hp _
  have h : doneB n 0 p q = true := by simp [doneB]; omega
  unfold warTo; rw [h]; rfl
theorem warTo_at (M : Nat → Nat → Bool) (n k i j : Nat) (hi : i < n) (hj : j < n) : ((tabF n n (warTo M k i j)).getD i []).getD j 0 = b2i (warF M k i j) := by
  have h : doneB i j i j = false := by simp [doneB]
  rw [tabF_at _ _ _ _ _ hi hj]; unfold warTo; rw [h]; rfl
theorem warTo_to (M : Nat → Nat → Bool) (n k i j : Nat) (hi : i < n) (hk : k < n) : ((tabF n n (warTo M k i j)).getD i []).getD k 0 = b2i (warF M k i k) := by
  rw [tabF_at _ _ _ _ _ hi hk]; unfold warTo; rw [war_to]; split <;> rfl
theorem warTo_from (M : Nat → Nat → Bool) (n k i j : Nat) (hk : k < n) (hj : j < n) : ((tabF n n (warTo M k i j)).getD k []).getD j 0 = b2i (warF M k k j) := by
  rw [tabF_at _ _ _ _ _ hk hj]; unfold warTo; rw [war_from]; split <;> rfl
def arcB (m : List (List Int)) (i j : Nat) : Bool := decide (0 < at2 m i j)
def reachB (m : List (List Int)) (i j : Nat) : Bool := warF (arcB m) m.length i j
def reachM (m : List (List Int)) : List (List Int) := tabF m.length m.length fun i j => b2i (reachB m i j)

/-! ### components -/
def eqB (m : List (List Int)) (i j : Nat) : Bool := reachB m i j && reachB m j i
theorem eqB_symm (m : List (List Int)) (i j : Nat) : eqB m i j = eqB m j i := by unfold eqB; rw [Bool.and_comm]
theorem eqB_trans (m : List (List Int)) (i x j : Nat) (hx : x < m.length) (h1 : eqB m i x = true) (h2 : eqB m x j = true) : eqB m i j = true := by
  unfold eqB at *
  simp only [Bool.and_eq_true] at *
  exact ⟨war_trans _ _ x i j hx h1.1 h2.1, war_trans _ _ x j i hx h2.2 h1.2⟩
def partOf (m : List (List Int)) (i k : Nat) : List Int := ((List.range k).filter fun j => eqB m i j).map fun j : Nat => (j : Int)
theorem partOf_zero (m : List (List Int)) (i : Nat) : partOf m i 0 = [] := rfl
theorem partOf_yes (m : List (List Int)) (i k : Nat) (h : eqB m i k = true) : partOf m i (k + 1) = partOf m i k ++ [(k : Int)] := by
  simp [partOf, List.range_succ, List.filter_append, h]
theorem partOf_no (m : List (List Int)) (i k : Nat) (h : eqB m i k = false) : partOf m i (k + 1) = partOf m i k := by
  simp [partOf, List.range_succ, List.filter_append, h]
theorem partOf_length (m : List (List Int)) (i k : Nat) : (partOf m i k).length ≤ k := by
  unfold partOf
  rw [List.length_map]
  have := List.length_filter_le (fun j => eqB m i j) (List.range k)
  rwa [List.length_range] at this
/-- i is the least vertex of its component -/
def headB (m : List (List Int)) (i : Nat) : Bool := eqB m i i && (List.range i).all fun q => !eqB m q i
def seenB (m : List (List Int)) (i j : Nat) : Bool := (List.range i).any fun q => eqB m q j
theorem seenB_succ (m : List (List Int)) (i j : Nat) : seenB m (i + 1) j = (seenB m i j || eqB m i j) := by simp [seenB, List.range_succ]
theorem headB_of (m : List (List Int)) (i : Nat) : headB m i = (!seenB m i i && reachB m i i) := by
  unfold headB seenB
  have e : eqB m i i = reachB m i i := by unfold eqB; simp
  rw [e, List.not_any_eq_all_not, Bool.and_comm]
/-- what is seen of a vertex that is seen, is seen -/
theorem seenB_seen (m : List (List Int)) (i j : Nat) (h : seenB m i i = true) (h2 : i < m.length) : seenB m (i + 1) j = seenB m i j := by
  rw [seenB_succ]
  cases hj : eqB m i j with
  | false => simp
  | true =>
    unfold seenB at h ⊢
    rw [List.any_eq_true] at h
    obtain ⟨q, hq, he⟩ := h
    have : (List.range i).any (fun q => eqB m q j) = true := by
      rw [List.any_eq_true]
      exact ⟨q, hq, eqB_trans m q i j h2 he hj⟩
    rw [this]; rfl
theorem seenB_off (m : List (List Int)) (i j : Nat) (h : reachB m i i = false) (h2 : j < m.length) : seenB m (i + 1) j = seenB m i j := by
  rw [seenB_succ]
  cases hj : eqB m i j with
  | false => simp
  | true =>
    have h3 := eqB_trans m i j i h2 hj (by rw [eqB_symm]; exact hj)
    unfold eqB at h3
    rw [h] at h3
    simp at h3
def compTo (m : List (List Int)) (i : Nat) : List (List Int) := (List.range i).flatMap fun p => if headB m p = true then [partOf m p m.length] else []
theorem compTo_yes (m : List (List Int)) (i : Nat) (h : headB m i = true) : compTo m (i + 1) = compTo m i ++ [partOf m i m.length] := by simp [compTo, List.range_succ, h]
theorem compTo_no (m : List (List Int)) (i : Nat) (h : headB m i = false) : compTo m (i + 1) = compTo m i := by simp [compTo, List.range_succ, h]
def compL (m : List (List Int)) : List (List Int) := compTo m m.length
theorem compTo_length (m : List (List Int)) : ∀ i, (compTo m i).length ≤ i
  | 0 => by simp [compTo]
  | i + 1 => by
    have := compTo_length m i
    cases h : headB m i with
    | true => rw [compTo_yes m i h, List.length_append, List.length_singleton]; omega
    | false => rw [compTo_no m i h]; omega
/-- the head of what is filtered -/
theorem filter_head (p : Nat → Bool) (i : Nat) : ∀ k, i < k → p i = true → ((List.range i).all fun q => !p q) = true → (((List.range k).filter p).map fun j : Nat => (j : Int)).getD 0 (-1) = (i : Int)
  | 0, h, _, _ => by omega
  | k + 1, hk, hp, ha => by
    by_cases e : i = k
    · subst e
      have hn : (List.range i).filter p = [] := by
        rw [List.filter_eq_nil_iff]
        intro q hq
        have := List.all_eq_true.1 ha q hq
        simpa using this
      rw [List.range_succ, List.filter_append, hn]
      simp [hp]
    · have ih := filter_head p i k (by omega) hp ha
      rw [List.range_succ, List.filter_append, List.map_append]
      rw [List.getD_eq_getElem?_getD] at ih ⊢
      cases hl : ((List.range k).filter p).map fun j : Nat => (j : Int) with
      | nil => rw [hl] at ih; simp at ih
      | cons x l => rw [hl] at ih; simpa using ih
theorem filter_other (p : Nat → Bool) (i : Nat) (h : p i = false ∨ ∃ q, q < i ∧ p q = true) : ∀ k, (((List.range k).filter p).map fun j : Nat => (j : Int)).getD 0 (-1) ≠ (i : Int)
  | 0 => by simp
  | k + 1 => by
    have ih := filter_other p i h k
    rw [List.range_succ, List.filter_append, List.map_append]
    rw [List.getD_eq_getElem?_getD] at ih ⊢
    cases hl : ((List.range k).filter p).map fun j : Nat => (j : Int) with
    | cons x l => rw [hl] at ih; simpa using ih
    | nil =>
      by_cases hk : p k = true
      · simp [hk]
        intro e
        have e : k = i := by omega
        subst e
        rcases h with h | ⟨q, hq, hpq⟩
        · rw [h] at hk; cases hk
        · have hl2 : (List.range k).filter p = [] := by simpa using hl
          rw [List.filter_eq_nil_iff] at hl2
          exact hl2 q (List.mem_range.2 hq) hpq
      · simp [hk]
theorem partOf_head (m : List (List Int)) (i : Nat) (hi : i < m.length) : headB m i = (decide (0 < (partOf m i m.length).length) && decide ((partOf m i m.length).getD 0 (-1) = (i : Int))) := by
  cases h : headB m i with
  | true =>
    have h2 := h
    simp only [headB, Bool.and_eq_true] at h2
    have h3 := filter_head (fun j => eqB m i j) i m.length hi h2.1 (by
      refine List.all_eq_true.2 ?_
      intro q hq
      rw [eqB_symm]
      exact List.all_eq_true.1 h2.2 q hq)
    have h4 : (partOf m i m.length).getD 0 (-1) = (i : Int) := h3
    have h5 : 0 < (partOf m i m.length).length := by
      rcases Nat.eq_zero_or_pos (partOf m i m.length).length with h0 | h0
      · rw [List.eq_nil_of_length_eq_zero h0] at h4; simp at h4
      · exact h0
    rw [h4, decide_eq_true h5]
    simp
  | false =>
    have h3 : (partOf m i m.length).getD 0 (-1) ≠ (i : Int) := by
      apply filter_other
      unfold headB at h
      rw [Bool.and_eq_false_iff, List.all_eq_false] at h
      rcases h with h | ⟨q, hq, h⟩
      · exact .inl h
      · refine .inr ⟨q, List.mem_range.1 hq, ?_⟩
        simp at h
        rw [eqB_symm]; exact h
    rw [decide_eq_false h3, Bool.and_false]

/-! ### a component is light -/
/-- the program: no row of a component adds up to more than 1 -/
def lightP (m : List (List Int)) : Bool := (compL m).all fun l => (partL m l).all fun r => decide (r.sum ≤ 1)
/-- the reference: each component's sum is its size -/
def lightR (m : List (List Int)) : Bool := (compL m).all fun l => decide (sumM (partL m l) = (l.length : Int))
theorem mem_partOf (m : List (List Int)) (i k : Nat) (x : Int) : x ∈ partOf m i k ↔ ∃ j : Nat, x = (j : Int) ∧ j < k ∧ eqB m i j = true := by
  simp only [partOf, List.mem_map, List.mem_filter, List.mem_range]
  constructor
  · rintro ⟨j, ⟨h1, h2⟩, rfl⟩; exact ⟨j, rfl, h1, h2⟩
  · rintro ⟨j, rfl, h1, h2⟩; exact ⟨j, ⟨h1, h2⟩, rfl⟩
theorem sum_ge_mem {l : List Int} (h : ∀ x ∈ l, 0 ≤ x) {y : Int} (hy : y ∈ l) : y ≤ l.sum := by
  induction l with
  | nil => cases hy
  | cons a l ih =>
    have h0 : 0 ≤ l.sum := by
      clear ih hy
      induction l with
      | nil => simp
      | cons b l ih2 =>
        have := ih2 (fun x hx => h x (by rcases List.mem_cons.1 hx with rfl | hx <;> simp_all))
        have := h b (by simp)
        simp only [List.sum_cons]; omega
    have ha := h a (by simp)
    simp only [List.sum_cons]
    rcases List.mem_cons.1 hy with rfl | hy
    · omega
    · have := ih (fun x hx => h x (List.mem_cons_of_mem _ hx)) hy
      omega
/-- each vertex of a component has an arc into it -/
theorem comp_row_pos {m : List (List Int)} (hm : ∀ i j, 0 ≤ at2 m i j) (hn : ∀ i j, ¬ (i < m.length ∧ j < m.length) → at2 m i j = 0) {i : Nat} {x : Int} (hx : x ∈ partOf m i m.length) : 1 ≤ ((partOf m i m.length).map fun j => (m.getD x.toNat []).getD j.toNat 0).sum := by
  obtain ⟨a, rfl, ha, he⟩ := (mem_partOf m i m.length _).1 hx
  have haa := eqB_trans m a i a (by
    by_cases hi : i < m.length
    · exact hi
    · exfalso
      unfold eqB at he
      simp only [Bool.and_eq_true] at he
      obtain ⟨y, hy, _⟩ := war_first _ _ _ _ he.1
      unfold arcB at hy
      rw [hn i y (by omega)] at hy
      simp at hy) (by rw [eqB_symm]; exact he) he
  unfold eqB at haa
  simp only [Bool.and_eq_true] at haa
  obtain ⟨y, hy, hz⟩ := war_first _ _ _ _ haa.1
  have hyl : y < m.length := by
    by_cases h : y < m.length
    · exact h
    · unfold arcB at hy
      rw [hn a y (by omega)] at hy
      simp at hy
  have hay : eqB m a y = true := by
    unfold eqB
    rw [Bool.and_eq_true]
    refine ⟨war_base _ _ _ hy _, ?_⟩
    rcases hz with rfl | hz
    · exact haa.1
    · exact hz
  have hiy := eqB_trans m i a y ha he hay
  have hmem : (m.getD ((a : Int)).toNat []).getD ((y : Int)).toNat 0 ∈ (partOf m i m.length).map fun j => (m.getD ((a : Int)).toNat []).getD j.toNat 0 :=
    List.mem_map_of_mem ((mem_partOf m i m.length _).2 ⟨y, rfl, hyl, hiy⟩)
  have h1 := sum_ge_mem (fun z hz => by
    rw [List.mem_map] at hz
    obtain ⟨j, _, e⟩ := hz
    rw [← e]; exact hm _ _) hmem
  have h2 : 1 ≤ (m.getD ((a : Int)).toNat []).getD ((y : Int)).toNat 0 := by
    unfold arcB at hy
    have : 0 < at2 m a y := by simpa using hy
    have e1 : ((a : Nat) : Int).toNat = a := by omega
    have e2 : ((y : Nat) : Int).toNat = y := by omega
    rw [e1, e2]
    unfold at2 at this
    omega
  omega
theorem sumM_map (t : List (List Int)) : sumM t = (t.map List.sum).sum := by
  unfold sumM sumTo
  congr 1
  apply List.ext_getElem
  · simp
  · intro i h1 h2
    simp at h1
    simp [List.getD_eq_getElem?_getD, List.getElem?_eq_getElem h1]
theorem all_one_iff : ∀ (l : List (List Int)), (∀ r ∈ l, 1 ≤ r.sum) → ((l.all fun r => decide (r.sum ≤ 1)) = decide ((l.map List.sum).sum = (l.length : Int)) ∧ (l.length : Int) ≤ (l.map List.sum).sum)
  | [], _ => by simp
  | r :: l, h => by
    obtain ⟨h1, h2⟩ := all_one_iff l fun x hx => h x (List.mem_cons_of_mem _ hx)
    have h3 := h r (by simp)
    simp only [List.all_cons, List.map_cons, List.sum_cons, List.length_cons, h1]
    refine ⟨?_, by omega⟩
    rw [Bool.eq_iff_iff]; simp; omega
theorem compL_mem {m : List (List Int)} {l : List Int} (h : l ∈ compL m) : ∃ i, i < m.length ∧ headB m i = true ∧ l = partOf m i m.length := by
  simp only [compL, compTo, List.mem_flatMap, List.mem_range] at h
  obtain ⟨i, hi, h⟩ := h
  split at h
  · next hh => exact ⟨i, hi, hh, by simpa using h⟩
  · simp at h
theorem light_same {m : List (List Int)} (hm : ∀ i j, 0 ≤ at2 m i j) (hn : ∀ i j, ¬ (i < m.length ∧ j < m.length) → at2 m i j = 0) : lightP m = lightR m := by
  unfold lightP lightR
  rw [Bool.eq_iff_iff, List.all_eq_true, List.all_eq_true]
  have key : ∀ l ∈ compL m, ((partL m l).all fun r => decide (r.sum ≤ 1)) = decide (sumM (partL m l) = (l.length : Int)) := by
    intro l hl
    obtain ⟨i, hi, _, rfl⟩ := compL_mem hl
    have := (all_one_iff (partL m (partOf m i m.length)) (by
      intro r hr
      simp only [partL, List.mem_map] at hr
      obtain ⟨x, hx, rfl⟩ := hr
      exact comp_row_pos hm hn hx)).1
    rw [this, sumM_map, partL_length]
  constructor
  · intro h l hl; rw [← key l hl]; exact h l hl
  · intro h l hl; rw [key l hl]; exact h l hl
end Go.Mx

/- Plain laws: growth below a fraction as a positive vector; the law of growth. No dump is imported. -/
namespace Go.Mx
open Go

/-- some positive vector grows by less than q/d -/
def SlowM (m : List (List Int)) (q d : Int) : Prop := ∃ x : Nat → Int, (∀ j, j < m.length → 0 < x j) ∧ ∀ i, i < m.length → d * mulN m.length (at2 m) x i < q * x i
theorem mul_lessF {m : List (List Int)} (q d : Int) (x : Nat → Int) {n i : Nat} (hi : i < n) : mulN n (lessF m q d) x i = q * x i - d * mulN n (at2 m) x i := by
  have e : mulN n (lessF m q d) x i = sumT n (fun j => (if i = j then q else 0) * x j + (-d) * (at2 m i j * x j)) := by
    apply sumT_congr
    intro j _
    unfold lessF
    grind
  rw [e, sumT_add, sumT_mul, sumT_pick n i q x hi, Int.neg_mul]
  rfl
theorem belowB_iff {m : List (List Int)} (h4 : m.length ≤ 4) (h9 : ∀ i j, 0 ≤ at2 m i j ∧ at2 m i j ≤ 9) {q d : Int} (hd : 0 ≤ d) : belowB m q d = true ↔ SlowM m q d := by
  have hz : ZF m.length (lessF m q d) := fun i j _ _ hij => by
    have := Int.mul_nonneg hd (h9 i j).1
    unfold lessF
    rw [if_neg hij]; omega
  have h1 : belowB m q d = true ↔ Lead m.length (lessF m q d) := by
    unfold belowB belowTo Lead
    rw [List.all_eq_true]
    constructor
    · intro h k hk
      have := h k (List.mem_range.2 hk)
      rw [detL_tabF] at this
      simpa using this
    · intro h k hk
      have := h k (List.mem_range.1 hk)
      rw [detL_tabF]
      simpa using this
  rw [h1, lead_pos _ h4 _ hz]
  constructor
  · rintro ⟨x, hx, hp⟩
    exact ⟨x, hx, fun i hi => by have := hp i hi; rw [mul_lessF q d x hi] at this; omega⟩
  · rintro ⟨x, hx, hp⟩
    exact ⟨x, hx, fun i hi => by have := hp i hi; rw [mul_lessF q d x hi]; omega⟩
theorem SlowM.mono {m : List (List Int)} {q q' d : Int} (h : SlowM m q d) (hq : q ≤ q') : SlowM m q' d := by
  obtain ⟨x, hx, hp⟩ := h
  refine ⟨x, hx, fun i hi => ?_⟩
  have h1 := hp i hi
  have h2 := Int.mul_le_mul_of_nonneg_right hq (Int.le_of_lt (hx i hi))
  omega
theorem rowS_sumT {m : List (List Int)} (hr : ∀ i, i < m.length → (m.getD i []).length = m.length) {i : Nat} (hi : i < m.length) : rowS m i = sumT m.length (at2 m i) := by
  unfold rowS
  rw [sumT_list, hr i hi]
  rfl
/-- all rows' sums below: the vector of ones -/
theorem below_ones {m : List (List Int)} {q d : Int} (hr : ∀ i, i < m.length → (m.getD i []).length = m.length) (h : ∀ i, i < m.length → d * rowS m i < q) : SlowM m q d := by
  refine ⟨fun _ => 1, fun _ _ => Int.one_pos, fun i hi => ?_⟩
  have := h i hi
  rw [rowS_sumT hr hi] at this
  have e : mulN m.length (at2 m) (fun _ => 1) i = sumT m.length (at2 m i) := sumT_congr fun j _ => Int.mul_one _
  rw [e]
  show _ < q * 1
  omega
theorem exists_min (x : Nat → Int) : ∀ n, 1 ≤ n → ∃ i, i < n ∧ ∀ j, j < n → x i ≤ x j
  | 1, _ => ⟨0, by omega, fun j hj => by rw [show j = 0 by omega]; exact Int.le_refl _⟩
  | n + 2, _ => by
    obtain ⟨i, hi, h⟩ := exists_min x (n + 1) (by omega)
    by_cases hx : x i ≤ x (n + 1)
    · refine ⟨i, by omega, fun j hj => ?_⟩
      by_cases e : j = n + 1
      · rw [e]; exact hx
      · exact h j (by omega)
    · refine ⟨n + 1, by omega, fun j hj => ?_⟩
      by_cases e : j = n + 1
      · rw [e]; exact Int.le_refl _
      · have := h j (by omega); omega
/-- .. and some row's sum is below -/
theorem below_row {m : List (List Int)} {q d : Int} (hr : ∀ i, i < m.length → (m.getD i []).length = m.length) (h0 : ∀ i j, 0 ≤ at2 m i j) (hd : 0 ≤ d) (h1 : 1 ≤ m.length) (h : SlowM m q d) : ∃ i, i < m.length ∧ d * rowS m i < q := by
  obtain ⟨x, hx, hp⟩ := h
  obtain ⟨i, hi, hmin⟩ := exists_min x m.length h1
  refine ⟨i, hi, ?_⟩
  rw [rowS_sumT hr hi]
  have hs : x i * sumT m.length (at2 m i) ≤ mulN m.length (at2 m) x i := by
    rw [← sumT_mul]
    apply sumT_le
    intro j hj
    rw [Int.mul_comm]
    exact Int.mul_le_mul_of_nonneg_left (hmin j hj) (h0 i j)
  have h2 := Int.mul_le_mul_of_nonneg_left hs hd
  have h3 := hp i hi
  have hxi := hx i hi
  by_cases hc : d * sumT m.length (at2 m i) < q
  · exact hc
  · have h4 := Int.mul_le_mul_of_nonneg_left (show q ≤ d * sumT m.length (at2 m i) by omega) (Int.le_of_lt hxi)
    have e : x i * (d * sumT m.length (at2 m i)) = d * (x i * sumT m.length (at2 m i)) := by grind
    rw [e, Int.mul_comm (x i) q] at h4
    omega
theorem not_below_zero {m : List (List Int)} {d : Int} (h0 : ∀ i j, 0 ≤ at2 m i j) (hd : 0 ≤ d) (h1 : 1 ≤ m.length) : ¬ SlowM m 0 d := by
  rintro ⟨x, hx, hp⟩
  have h2 := hp 0 (by omega)
  have h3 : 0 ≤ mulN m.length (at2 m) x 0 := sumT_nn fun j hj => Int.mul_nonneg (h0 0 j) (Int.le_of_lt (hx j hj))
  have := Int.mul_nonneg hd h3
  rw [Int.zero_mul] at h2
  omega

/-! ### the search -/
theorem halve_inv {f : Int → Bool} : ∀ (k : Nat) (low high : Int), low < high → high - low ≤ (k : Int) + 1 → low ≤ halve f k low high ∧ halve f k low high < high ∧ (halve f k low high = low ∨ f (halve f k low high) = false) ∧ (halve f k low high + 1 = high ∨ f (halve f k low high + 1) = true)
  | 0, low, high, h1, h2 => by
    simp only [halve]
    exact ⟨by omega, by omega, .inl trivial, .inl (by omega)⟩
  | k + 1, low, high, h1, h2 => by
    by_cases hd : high - low > 1
    · simp only [halve, if_pos hd]
      cases hf : f ((low + high) / 2) with
      | true =>
        obtain ⟨a, b, c, e⟩ := halve_inv (f := f) k low ((low + high) / 2) (by omega) (by omega)
        simp only [if_true]
        refine ⟨a, by omega, c, ?_⟩
        rcases e with e | e
        · right; rw [e]; exact hf
        · exact .inr e
      | false =>
        obtain ⟨a, b, c, e⟩ := halve_inv (f := f) k ((low + high) / 2) high (by omega) (by omega)
        simp only [Bool.false_eq_true, if_false]
        refine ⟨by omega, b, ?_, e⟩
        rcases c with c | c
        · right; rw [c]; exact hf
        · exact .inr c
    · rw [halve_done hd]
      exact ⟨by omega, by omega, .inl rfl, .inl (by omega)⟩
/-- what is known of a small matrix -/
structure Sm (m : List (List Int)) : Prop where
  four : m.length ≤ 4
  one : 1 ≤ m.length
  nine : ∀ i j, 0 ≤ at2 m i j ∧ at2 m i j ≤ 9
  row : ∀ i, i < m.length → (m.getD i []).length = m.length
theorem Sm.of {m : List (List Int)} (h : isSm m = true) : Sm m := by
  obtain ⟨h4, h1, h9, -⟩ := isSm_nine h
  exact ⟨h4, h1, h9, (isSm_yes h).1.row⟩
theorem Sm.rowS {m : List (List Int)} (h : Sm m) {i : Nat} (hi : i < m.length) : 0 ≤ rowS m i ∧ rowS m i ≤ 36 := by
  rw [rowS_sumT h.row hi]
  refine ⟨sumT_nn fun j _ => (h.nine i j).1, ?_⟩
  have h1 := sumT_le (n := m.length) (f := at2 m i) (g := fun _ => 9) fun j _ => (h.nine i j).2
  have h2 : ∀ n : Nat, sumT n (fun _ => 9) = 9 * (n : Int) := by
    intro n
    induction n with
    | zero => rfl
    | succ n ih => rw [sumT_last, ih]; omega
  rw [h2] at h1
  have := h.four
  omega
theorem Sm.floor {m : List (List Int)} (h : Sm m) {d : Int} (hd1 : 1 ≤ d) (hd2 : d ≤ 100) : 0 ≤ floorG m d ∧ floorG m d ≤ 36 * d ∧ ¬ SlowM m (floorG m d) d ∧ SlowM m (floorG m d + 1) d := by
  obtain ⟨a, b, c, e⟩ := halve_inv (f := fun q => belowB m q d) 4000 0 (36 * d + 1) (by omega) (by omega)
  have hg : halve (fun q => belowB m q d) 4000 0 (36 * d + 1) = floorG m d := rfl
  rw [hg] at a b c e
  have hiff := fun q => belowB_iff h.four h.nine (q := q) (d := d) (by omega)
  refine ⟨a, by omega, ?_, ?_⟩
  · rcases c with c | c
    · rw [c]; exact not_below_zero (fun i j => (h.nine i j).1) (by omega) h.one
    · rw [← hiff]; simp [c]
  · rcases e with e | e
    · rw [e]
      refine below_ones h.row fun i hi => ?_
      have := Int.mul_le_mul_of_nonneg_left (h.rowS hi).2 (show 0 ≤ d by omega)
      omega
    · exact (hiff _).1 e
theorem floorG_le {m : List (List Int)} (h : Sm m) {d q : Int} (hd1 : 1 ≤ d) (hd2 : d ≤ 100) (hb : SlowM m q d) : floorG m d < q := by
  obtain ⟨-, -, hn, -⟩ := h.floor hd1 hd2
  by_cases hq : q ≤ floorG m d
  · exact absurd (hb.mono hq) hn
  · omega
theorem floorG_ge {m : List (List Int)} (h : Sm m) {d q : Int} (hd1 : 1 ≤ d) (hd2 : d ≤ 100) (hb : ¬ SlowM m q d) : q ≤ floorG m d := by
  obtain ⟨-, -, -, hy⟩ := h.floor hd1 hd2
  by_cases hq : q ≤ floorG m d
  · exact hq
  · exact absurd (hy.mono (by omega)) hb

/-! ### rows' sums -/
theorem minFrom_le (f : Nat → Int) : ∀ n i, i < n → minFrom f n ≤ f i
  | n + 1, i, h => by
    unfold minFrom
    rw [if_neg (by omega)]
    have key : ∀ k, ∀ i, i < k + 1 → minTo f (k + 1) ≤ f i := by
      intro k
      induction k with
      | zero => intro i hi; rw [show i = 0 by omega]; simp only [minTo]; omega
      | succ k ih =>
        intro i hi
        rw [minTo]
        by_cases e : i = k + 1
        · rw [e]; omega
        · have := ih i (by omega); omega
    exact key n i h
theorem maxFrom_ge (f : Nat → Int) : ∀ n i, i < n → f i ≤ maxFrom f n
  | n + 1, i, h => by
    unfold maxFrom
    rw [if_neg (by omega)]
    have key : ∀ k, ∀ i, i < k + 1 → f i ≤ maxTo f (k + 1) := by
      intro k
      induction k with
      | zero => intro i hi; rw [show i = 0 by omega]; simp only [maxTo]; omega
      | succ k ih =>
        intro i hi
        rw [maxTo]
        by_cases e : i = k + 1
        · rw [e]; omega
        · have := ih i (by omega); omega
    exact key n i h
theorem floor_low {m : List (List Int)} (h : Sm m) {d : Int} (hd1 : 1 ≤ d) (hd2 : d ≤ 100) : minFrom (rowS m) m.length * d ≤ floorG m d := by
  obtain ⟨-, -, -, hy⟩ := h.floor hd1 hd2
  obtain ⟨i, hi, h1⟩ := below_row h.row (fun i j => (h.nine i j).1) (by omega) h.one hy
  have h2 := Int.mul_le_mul_of_nonneg_left (minFrom_le (rowS m) m.length i hi) (show 0 ≤ d by omega)
  rw [Int.mul_comm]
  omega
theorem floor_high {m : List (List Int)} (h : Sm m) {d : Int} (hd1 : 1 ≤ d) (hd2 : d ≤ 100) : floorG m d ≤ maxFrom (rowS m) m.length * d := by
  obtain ⟨-, -, hn, -⟩ := h.floor hd1 hd2
  by_cases hq : floorG m d ≤ maxFrom (rowS m) m.length * d
  · exact hq
  · refine absurd (below_ones h.row fun i hi => ?_) hn
    have h2 := Int.mul_le_mul_of_nonneg_left (maxFrom_ge (rowS m) m.length i hi) (show 0 ≤ d by omega)
    rw [Int.mul_comm] at hq
    omega

/-! ### turned -/
theorem belowB_turned {m : List (List Int)} (h4 : m.length ≤ 4) (q d : Int) : belowB (turnM m) q d = belowB m q d := by
  unfold belowB belowTo
  rw [turnM_length, Bool.eq_iff_iff, List.all_eq_true, List.all_eq_true]
  have key : ∀ k, k < m.length → detL (k + 1) (tabF (k + 1) (k + 1) (lessF (turnM m) q d)) = detL (k + 1) (tabF (k + 1) (k + 1) (lessF m q d)) := by
    intro k hk
    rw [detL_tabF, detL_tabF, ← detF_turn (by omega)]
    apply detF_congr
    intro i j hi hj
    unfold lessF
    rw [turnM_at m j i (by omega) (by omega)]
    by_cases e : i = j
    · rw [if_pos e, if_pos e.symm]
    · rw [if_neg e, if_neg (fun h => e h.symm)]
  constructor
  · intro h k hk
    rw [← key k (List.mem_range.1 hk)]; exact h k hk
  · intro h k hk
    rw [key k (List.mem_range.1 hk)]; exact h k hk
theorem floorG_turn {m : List (List Int)} (h4 : m.length ≤ 4) (d : Int) : floorG (turnM m) d = floorG m d := by
  unfold floorG
  congr 1
  funext q
  exact belowB_turned h4 q d

/-! ### squares -/
theorem mulN_mono {n : Nat} {F : Nat → Nat → Int} (h0 : ∀ i j, 0 ≤ F i j) {x y : Nat → Int} (h : ∀ j, j < n → x j ≤ y j) (i : Nat) : mulN n F x i ≤ mulN n F y i :=
  sumT_le fun j hj => Int.mul_le_mul_of_nonneg_left (h j hj) (h0 i j)
theorem mulN_scale (n : Nat) (F : Nat → Nat → Int) (c : Int) (x : Nat → Int) (i : Nat) : mulN n F (fun j => c * x j) i = c * mulN n F x i := by
  unfold mulN
  rw [← sumT_mul]
  exact sumT_congr fun j _ => by grind
theorem mulN_add (n : Nat) (F : Nat → Nat → Int) (x y : Nat → Int) (i : Nat) : mulN n F (fun j => x j + y j) i = mulN n F x i + mulN n F y i := by
  unfold mulN
  rw [← sumT_add]
  exact sumT_congr fun j _ => Int.mul_add _ _ _
/-- P is the square of F -/
theorem mulN_sq {n : Nat} {F P : Nat → Nat → Int} (hP : ∀ i j, i < n → j < n → P i j = sumT n fun k => F i k * F k j) (x : Nat → Int) {i : Nat} (hi : i < n) : mulN n P x i = mulN n F (mulN n F x) i := by
  unfold mulN
  have e1 : sumT n (fun j => P i j * x j) = sumT n fun j => sumT n fun k => F i k * (F k j * x j) := by
    apply sumT_congr
    intro j hj
    rw [hP i j hi hj, Int.mul_comm, ← sumT_mul]
    exact sumT_congr fun k _ => by grind
  rw [e1, sumT_swap]
  exact sumT_congr fun k _ => sumT_mul _ _ _
def IsSq (m p : List (List Int)) : Prop := p.length = m.length ∧ ∀ i j, i < m.length → j < m.length → at2 p i j = sumT m.length fun k => at2 m i k * at2 m k j
theorem below_square {m p : List (List Int)} {q d r : Int} (h0 : ∀ i j, 0 ≤ at2 m i j) (hp : IsSq m p) (hq : 0 ≤ q) (hd : 1 ≤ d) (h : SlowM m q d) (hr : q * q ≤ r * d) : SlowM p r d := by
  obtain ⟨x, hx, hb⟩ := h
  refine ⟨x, fun j hj => hx j (by rw [← hp.1]; exact hj), fun i hi => ?_⟩
  rw [hp.1] at hi ⊢
  rw [mulN_sq hp.2 x hi]
  obtain ⟨y, hy⟩ : ∃ y, y = mulN m.length (at2 m) x := ⟨_, rfl⟩
  rw [← hy] at hb ⊢
  have h1 : mulN m.length (at2 m) (fun j => d * y j) i ≤ mulN m.length (at2 m) (fun j => q * x j) i := mulN_mono h0 (fun j hj => Int.le_of_lt (hb j hj)) i
  rw [mulN_scale, mulN_scale, ← hy] at h1
  have h2 := hb i hi
  have hxi := hx i hi
  have h3 : d * (d * mulN m.length (at2 m) y i) ≤ d * (q * y i) := Int.mul_le_mul_of_nonneg_left h1 (by omega)
  have h5 : d * y i + 1 ≤ q * x i := by omega
  have h6 : q * (d * y i + 1) ≤ q * (q * x i) := Int.mul_le_mul_of_nonneg_left h5 hq
  have h7 : x i * (q * q) ≤ x i * (r * d) := Int.mul_le_mul_of_nonneg_left hr (Int.le_of_lt hxi)
  have hy0 : 0 ≤ y i := by rw [hy]; exact sumT_nn fun j hj => Int.mul_nonneg (h0 i j) (Int.le_of_lt (hx j hj))
  have hq1 : 1 ≤ q := by
    by_cases e : q = 0
    · rw [e, Int.zero_mul] at h2
      have := Int.mul_nonneg (show 0 ≤ d by omega) hy0
      omega
    · omega
  have e1 : d * (q * y i) = q * (d * y i + 1) - q := by grind
  have e2 : q * (q * x i) = x i * (q * q) := by grind
  have e3 : x i * (r * d) = d * (r * x i) := by grind
  have h8 : d * (d * mulN m.length (at2 m) y i) < d * (r * x i) := by omega
  exact Int.lt_of_mul_lt_mul_left h8 (by omega)
theorem below_root {m p : List (List Int)} {q d r : Int} (h0 : ∀ i j, 0 ≤ at2 m i j) (hp : IsSq m p) (hq : 1 ≤ q) (hd : 1 ≤ d) (h : SlowM p r d) (hr : r * d ≤ q * q) : SlowM m q d := by
  obtain ⟨x, hx, hb⟩ := h
  rw [hp.1] at hx hb
  obtain ⟨y, hy⟩ : ∃ y, y = mulN m.length (at2 m) x := ⟨_, rfl⟩
  have hy0 : ∀ i, 0 ≤ y i := fun i => by rw [hy]; exact sumT_nn fun j hj => Int.mul_nonneg (h0 i j) (Int.le_of_lt (hx j hj))
  refine ⟨fun j => q * x j + d * y j, fun j hj => ?_, fun i hi => ?_⟩
  · have := Int.mul_pos (show 0 < q by omega) (hx j hj)
    have := Int.mul_nonneg (show 0 ≤ d by omega) (hy0 j)
    show 0 < q * x j + d * y j
    omega
  · rw [mulN_add, mulN_scale, mulN_scale, ← hy]
    have h1 := hb i hi
    rw [mulN_sq hp.2 x hi, ← hy] at h1
    have hxi := hx i hi
    have h2 : d * (d * mulN m.length (at2 m) y i) < d * (r * x i) := Int.mul_lt_mul_of_pos_left h1 (by omega)
    have h3 : x i * (r * d) ≤ x i * (q * q) := Int.mul_le_mul_of_nonneg_left hr (Int.le_of_lt hxi)
    have e1 : d * (q * y i + d * mulN m.length (at2 m) y i) = d * (q * y i) + d * (d * mulN m.length (at2 m) y i) := by grind
    have e2 : q * (q * x i + d * y i) = x i * (q * q) + d * (q * y i) := by grind
    have e3 : x i * (r * d) = d * (r * x i) := by grind
    show d * (q * y i + d * mulN m.length (at2 m) y i) < q * (q * x i + d * y i)
    rw [e1, e2]
    omega
theorem floor_square {m p : List (List Int)} (h : Sm m) (hp : Sm p) (hsq : IsSq m p) {d : Int} (hd1 : 1 ≤ d) (hd2 : d ≤ 100) : ¬ ((floorG p d + 1) * d ≤ floorG m d * floorG m d) ∧ ¬ ((floorG m d + 1) * (floorG m d + 1) ≤ floorG p d * d) := by
  obtain ⟨a, -, hn, hy⟩ := h.floor hd1 hd2
  obtain ⟨b, -, hn2, hy2⟩ := hp.floor hd1 hd2
  have h0 := fun i j => (h.nine i j).1
  constructor
  · intro hc
    by_cases hq : floorG m d = 0
    · rw [hq, Int.zero_mul] at hc
      have := Int.mul_pos (show 0 < floorG p d + 1 by omega) (show 0 < d by omega)
      omega
    · exact hn (below_root h0 hsq (by omega) hd1 hy2 hc)
  · intro hc
    exact hn2 (below_square h0 hsq (by omega) hd1 hy hc)
theorem dot_sumT (F G : Nat → Nat → Int) (n i j : Nat) : dotTo F G n i j = sumT n fun k => F i k * G k j := sumT_range n _
theorem powM_sq {m p : List (List Int)} (h : powM m 2 = some p) : IsSq m p := by
  have h1 : powM m 2 = (powM m 1).bind fun x => mulO x m := rfl
  have h2 : powM m 1 = (powM m 0).bind fun x => mulO x m := rfl
  have h3 : powM m 0 = some (unitM m.length) := rfl
  rw [h3, Option.bind_some] at h2
  rw [h1] at h
  cases h4 : powM m 1 with
  | none => rw [h4] at h; cases h
  | some y =>
    rw [h4, Option.bind_some] at h
    rw [h4] at h2
    unfold mulO at h h2
    split at h
    · next hc =>
      split at h2
      · next hc2 =>
        cases h
        cases h2
        refine ⟨tabF_length _ _ _, fun i j hi hj => ?_⟩
        have e : ∀ (F : Nat → Nat → Int) (i j : Nat), i < m.length → j < m.length → at2 (tabF m.length m.length F) i j = F i j := fun F i j hi hj => tabF_at _ _ _ _ _ hi hj
        show at2 (tabF m.length m.length _) i j = _
        rw [e _ i j hi hj, dot_sumT]
        apply sumT_congr
        intro k hk
        show at2 (tabF m.length m.length _) i k * _ = _
        rw [e _ i k hi hk, dot_sumT]
        congr 1
        have e2 : sumT m.length (fun t => at2 (unitM m.length) i t * at2 m t k) = sumT m.length (fun t => (if i = t then 1 else 0) * at2 m t k) := by
          apply sumT_congr
          intro t ht
          show at2 (tabF m.length m.length _) i t * _ = _
          rw [e _ i t hi ht]
        rw [e2, sumT_pick m.length i 1 (fun t => at2 m t k) hi, Int.one_mul]
      · cases h2
    · cases h
end Go.Mx

/- Plain laws: growth at most 1 and components that are cycles. No dump is imported. -/
namespace Go.Mx
open Go

/-- in each component each vertex has one arc at most -/
def LightV (m : List (List Int)) : Prop := ∀ a, a < m.length → sumT m.length (fun j => if eqB m a j = true then at2 m a j else 0) ≤ 1
theorem least_of (p : Nat → Bool) : ∀ n, (∃ i, i < n ∧ p i = true) → ∃ i, i < n ∧ p i = true ∧ ∀ q, q < i → p q = false
  | 0, h => by obtain ⟨i, hi, _⟩ := h; omega
  | n + 1, h => by
    by_cases hn : ∃ i, i < n ∧ p i = true
    · obtain ⟨i, hi, h1, h2⟩ := least_of p n hn
      exact ⟨i, by omega, h1, h2⟩
    · obtain ⟨i, hi, h1⟩ := h
      refine ⟨i, hi, h1, fun q hq => ?_⟩
      cases hp : p q with
      | false => rfl
      | true => exact absurd ⟨q, by omega, hp⟩ hn
theorem compL_of {m : List (List Int)} {i : Nat} (hi : i < m.length) (h : headB m i = true) : partOf m i m.length ∈ compL m := by
  simp only [compL, compTo, List.mem_flatMap, List.mem_range]
  exact ⟨i, hi, by rw [if_pos h]; simp⟩
theorem part_sum (m : List (List Int)) (i a n : Nat) : ((partOf m i n).map fun j => (m.getD ((a : Int)).toNat []).getD j.toNat 0).sum = sumT n fun j => if eqB m i j = true then at2 m a j else 0 := by
  unfold partOf
  rw [List.map_map, ← sumT_filter n (fun j => eqB m i j) (fun j => at2 m a j)]
  congr 1
theorem eqB_self {m : List (List Int)} {a j : Nat} (hj : j < m.length) (h : eqB m a j = true) : eqB m a a = true :=
  eqB_trans m a j a hj h (by rw [eqB_symm]; exact h)
theorem light_iff (m : List (List Int)) : lightP m = true ↔ LightV m := by
  unfold lightP
  rw [List.all_eq_true]
  constructor
  · intro h a ha
    by_cases hs : eqB m a a = true
    · obtain ⟨i, hi, h1, h2⟩ := least_of (fun i => eqB m i a) m.length ⟨a, ha, hs⟩
      have hii : eqB m i i = true := eqB_self ha h1
      have hh : headB m i = true := by
        unfold headB
        rw [hii, Bool.true_and, List.all_eq_true]
        intro q hq
        have hq := List.mem_range.1 hq
        cases hc : eqB m q i with
        | false => rfl
        | true =>
          have h3 := h2 q hq
          have h4 := eqB_trans m q i a hi hc h1
          rw [h3] at h4; cases h4
      have h3 := h _ (compL_of hi hh)
      rw [List.all_eq_true] at h3
      have h4 := h3 ((partOf m i m.length).map fun j => (m.getD ((a : Int)).toNat []).getD j.toNat 0) (by
        unfold partL
        exact List.mem_map_of_mem ((mem_partOf m i m.length _).2 ⟨a, rfl, ha, h1⟩))
      rw [part_sum] at h4
      have e : sumT m.length (fun j => if eqB m i j = true then at2 m a j else 0) = sumT m.length (fun j => if eqB m a j = true then at2 m a j else 0) := by
        apply sumT_congr
        intro j hj
        have e : eqB m i j = eqB m a j := by
          rw [Bool.eq_iff_iff]
          exact ⟨fun h => eqB_trans m a i j hi (by rw [eqB_symm]; exact h1) h, fun h => eqB_trans m i a j ha h1 h⟩
        rw [e]
      rw [e] at h4
      simpa using h4
    · have e : sumT m.length (fun j => if eqB m a j = true then at2 m a j else 0) = 0 := by
        rw [sumT_congr (g := fun _ => 0) fun j hj => if_neg fun h => hs (eqB_self hj h), sumT_zero]
      rw [e]; omega
  · intro h l hl
    obtain ⟨i, hi, hh, rfl⟩ := compL_mem hl
    rw [List.all_eq_true]
    intro r hr
    simp only [partL, List.mem_map] at hr
    obtain ⟨x, hx, rfl⟩ := hr
    obtain ⟨a, rfl, ha, h1⟩ := (mem_partOf m i m.length _).1 hx
    rw [part_sum]
    have e : sumT m.length (fun j => if eqB m i j = true then at2 m a j else 0) = sumT m.length (fun j => if eqB m a j = true then at2 m a j else 0) := by
      apply sumT_congr
      intro j hj
      have e : eqB m i j = eqB m a j := by
        rw [Bool.eq_iff_iff]
        exact ⟨fun h => eqB_trans m a i j hi (by rw [eqB_symm]; exact h1) h, fun h => eqB_trans m i a j ha h1 h⟩
      rw [e]
    rw [e]
    have := h a ha
    simpa using this

/-! ### ranks -/
def starB (m : List (List Int)) (i j : Nat) : Bool := decide (i = j) || reachB m i j
def rankN (m : List (List Int)) (i : Nat) : Nat := ((List.range m.length).filter fun j => starB m i j).length
theorem star_trans {m : List (List Int)} {i k j : Nat} (hk : k < m.length) (h1 : starB m i k = true) (h2 : starB m k j = true) : starB m i j = true := by
  simp only [starB, Bool.or_eq_true, decide_eq_true_eq] at *
  rcases h1 with rfl | h1
  · exact h2
  · rcases h2 with rfl | h2
    · exact .inr h1
    · exact .inr (war_trans _ _ k i j hk h1 h2)
theorem filter_len_le {α : Type} {p q : α → Bool} : ∀ {l : List α}, (∀ x ∈ l, p x = true → q x = true) → (l.filter p).length ≤ (l.filter q).length
  | [], _ => Nat.le_refl _
  | a :: l, h => by
    have ih := filter_len_le (p := p) (q := q) (l := l) fun x hx => h x (List.mem_cons_of_mem _ hx)
    have ha := h a (by simp)
    rw [List.filter_cons, List.filter_cons]
    by_cases hp : p a = true
    · rw [if_pos hp, if_pos (ha hp)]; simp; omega
    · rw [if_neg hp]
      split
      · simp; omega
      · exact ih
theorem filter_len_lt {α : Type} {p q : α → Bool} : ∀ {l : List α} {y : α}, (∀ x ∈ l, p x = true → q x = true) → y ∈ l → p y = false → q y = true → (l.filter p).length < (l.filter q).length
  | a :: l, y, h, hy, hp, hq => by
    have hl := fun x hx => h x (List.mem_cons_of_mem a hx)
    have ih := filter_len_le (p := p) (q := q) (l := l) hl
    have ha := h a (by simp)
    rw [List.filter_cons, List.filter_cons]
    by_cases e : p a = true
    · have hne : y ≠ a := fun e2 => by rw [e2, e] at hp; cases hp
      have hy2 : y ∈ l := by rcases List.mem_cons.1 hy with h | h; exact absurd h hne; exact h
      have := filter_len_lt (p := p) (q := q) hl hy2 hp hq
      rw [if_pos e, if_pos (ha e)]; simp; omega
    · rw [if_neg e]
      by_cases e2 : q a = true
      · rw [if_pos e2]; simp; omega
      · rw [if_neg e2]
        have hne : y ≠ a := fun e3 => e2 (by rw [← e3]; exact hq)
        have hy2 : y ∈ l := by rcases List.mem_cons.1 hy with h | h; exact absurd h hne; exact h
        exact filter_len_lt (p := p) (q := q) hl hy2 hp hq
theorem rank_eq {m : List (List Int)} {i j : Nat} (hi : i < m.length) (hj : j < m.length) (h : eqB m i j = true) : rankN m i = rankN m j := by
  unfold eqB at h
  rw [Bool.and_eq_true] at h
  have h1 : starB m i j = true := by unfold starB; rw [h.1, Bool.or_true]
  have h2 : starB m j i = true := by unfold starB; rw [h.2, Bool.or_true]
  unfold rankN
  congr 1
  apply List.filter_congr
  intro x _
  rw [Bool.eq_iff_iff]
  exact ⟨fun h => star_trans hi h2 h, fun h => star_trans hj h1 h⟩
theorem rank_lt {m : List (List Int)} {i j : Nat} (hi : i < m.length) (hj : j < m.length) (h : reachB m i j = true) (hn : eqB m i j = false) : rankN m j < rankN m i := by
  have h1 : starB m i j = true := by unfold starB; rw [h, Bool.or_true]
  have hne : j ≠ i := by
    intro e
    subst e
    unfold eqB at hn
    rw [h] at hn; cases hn
  have h2 : starB m j i = false := by
    unfold eqB at hn
    rw [h, Bool.true_and] at hn
    unfold starB
    rw [hn, decide_eq_false hne]; rfl
  unfold rankN
  exact filter_len_lt (y := i) (fun x _ hx => star_trans hj h1 hx) (List.mem_range.2 hi) h2 (by unfold starB; simp)
theorem arc_reach {m : List (List Int)} {i j : Nat} (h : 0 < at2 m i j) : reachB m i j = true := war_base _ _ _ (by unfold arcB; rw [decide_eq_true h]) _
theorem pow_lt_step {a b : Nat} (h : a < b) : (3601 : Int) ^ a * 3601 ≤ 3601 ^ b := by
  rw [← Int.pow_succ]
  obtain ⟨k, rfl⟩ : ∃ k, b = a + 1 + k := ⟨b - (a + 1), by omega⟩
  rw [Int.pow_add]
  have h1 : (0 : Int) < 3601 ^ (a + 1) := Int.pow_pos (by omega)
  have h2 : (0 : Int) < 3601 ^ k := Int.pow_pos (by omega)
  have := Int.mul_le_mul_of_nonneg_left (show (1 : Int) ≤ 3601 ^ k by omega) (Int.le_of_lt h1)
  rw [Int.mul_one] at this
  exact this
/-- cycles alone: the growth is at most 1 -/
theorem light_below {m : List (List Int)} (h : Sm m) (hl : LightV m) : SlowM m 101 100 := by
  refine ⟨fun i => 3601 ^ rankN m i, fun j _ => Int.pow_pos (by omega), fun i hi => ?_⟩
  obtain ⟨X, hX⟩ : ∃ X : Int, X = 3601 ^ rankN m i := ⟨_, rfl⟩
  have hX0 : 0 < X := by rw [hX]; exact Int.pow_pos (by omega)
  obtain ⟨R, hR⟩ : ∃ R, R = sumT m.length (fun j => if eqB m i j = true then 0 else at2 m i j * 3601 ^ rankN m j) := ⟨_, rfl⟩
  have e : mulN m.length (at2 m) (fun i => 3601 ^ rankN m i) i = sumT m.length (fun j => if eqB m i j = true then at2 m i j else 0) * X + R := by
    rw [Int.mul_comm, ← sumT_mul, hR, ← sumT_add]
    apply sumT_congr
    intro j hj
    by_cases he : eqB m i j = true
    · rw [if_pos he, if_pos he]
      show at2 m i j * 3601 ^ rankN m j = _
      rw [← rank_eq hi hj he, ← hX, Int.add_zero, Int.mul_comm]
    · rw [if_neg he, if_neg he, Int.mul_zero, Int.zero_add]
  have hR0 : 0 ≤ R := by
    rw [hR]
    refine sumT_nn fun j _ => ?_
    split
    · exact Int.le_refl _
    · exact Int.mul_nonneg (h.nine i j).1 (Int.le_of_lt (Int.pow_pos (by omega)))
  have hR1 : 3601 * R ≤ 36 * X := by
    rw [hR, ← sumT_mul]
    have h1 : sumT m.length (fun j => 3601 * (if eqB m i j = true then 0 else at2 m i j * 3601 ^ rankN m j)) ≤ sumT m.length (fun _ => 9 * X) := by
      apply sumT_le
      intro j hj
      by_cases he : eqB m i j = true
      · rw [if_pos he]; omega
      · rw [if_neg he]
        have h9 := h.nine i j
        by_cases hz : at2 m i j = 0
        · rw [hz, Int.zero_mul]; omega
        · have hlt := rank_lt hi hj (arc_reach (by omega)) (by simpa using he)
          have hp := pow_lt_step hlt
          rw [← hX] at hp
          have h2 : at2 m i j * (3601 ^ rankN m j * 3601) ≤ at2 m i j * X := Int.mul_le_mul_of_nonneg_left hp h9.1
          have h3 : at2 m i j * X ≤ 9 * X := Int.mul_le_mul_of_nonneg_right h9.2 (Int.le_of_lt hX0)
          have e3 : 3601 * (at2 m i j * 3601 ^ rankN m j) = at2 m i j * (3601 ^ rankN m j * 3601) := by grind
          omega
    have h2 : ∀ n : Nat, sumT n (fun _ => 9 * X) = (n : Int) * (9 * X) := by
      intro n
      induction n with
      | zero => simp [sumT]
      | succ n ih => rw [sumT_last, ih]; grind
    rw [h2] at h1
    have h4 := h.four
    have h3 : (m.length : Int) * (9 * X) ≤ 4 * (9 * X) := Int.mul_le_mul_of_nonneg_right (by omega) (by omega)
    omega
  have hs := Int.mul_le_mul_of_nonneg_right (hl i hi) (Int.le_of_lt hX0)
  show 100 * mulN m.length (at2 m) (fun i => 3601 ^ rankN m i) i < 101 * 3601 ^ rankN m i
  rw [e, ← hX]
  omega
/-- a path's bound -/
theorem path_bd {m : List (List Int)} (h : Sm m) {x : Nat → Int} (hx : ∀ j, j < m.length → 0 < x j) (hp : ∀ i, i < m.length → 100 * mulN m.length (at2 m) x i < 101 * x i) : ∀ (k : Nat), k ≤ m.length → ∀ i j, i < m.length → j < m.length → warF (arcB m) k i j = true → (100 : Int) ^ (2 ^ k) * x j ≤ 101 ^ (2 ^ k) * x i
  | 0, _, i, j, hi, hj, hw => by
    have ha : 0 < at2 m i j := by simpa [warF, arcB] using hw
    have h1 := sumT_ge (n := m.length) (f := fun j => at2 m i j * x j) (fun j hj => Int.mul_nonneg (h.nine i j).1 (Int.le_of_lt (hx j hj))) j hj
    have h2 := Int.mul_le_mul_of_nonneg_right (show 1 ≤ at2 m i j by omega) (Int.le_of_lt (hx j hj))
    have h3 := hp i hi
    unfold mulN at h3
    have h1 : at2 m i j * x j ≤ sumT m.length (fun j => at2 m i j * x j) := h1
    show (100 : Int) ^ 1 * x j ≤ 101 ^ 1 * x i
    rw [Int.pow_one, Int.pow_one]
    omega
  | k + 1, hk, i, j, hi, hj, hw => by
    have ih := path_bd h hx hp k (by omega)
    have e : (2 : Nat) ^ (k + 1) = 2 ^ k + 2 ^ k := by rw [Nat.pow_succ]; omega
    have hA : (0 : Int) < 100 ^ (2 ^ k) := Int.pow_pos (by omega)
    have hB : (0 : Int) < 101 ^ (2 ^ k) := Int.pow_pos (by omega)
    rw [e, Int.pow_add, Int.pow_add]
    have hAB : ∀ n : Nat, (100 : Int) ^ n ≤ 101 ^ n := by
      intro n
      induction n with
      | zero => exact Int.le_refl _
      | succ n ih =>
        have h1 : (0 : Int) < 100 ^ n := Int.pow_pos (by omega)
        rw [Int.pow_succ, Int.pow_succ]; omega
    have hAB := hAB (2 ^ k)
    generalize (100 : Int) ^ (2 ^ k) = A at ih hA hAB ⊢
    generalize (101 : Int) ^ (2 ^ k) = B at ih hB hAB ⊢
    have hxi := hx i hi
    have hxj := hx j hj
    simp only [warF, Bool.or_eq_true, Bool.and_eq_true] at hw
    rcases hw with hw | ⟨hw1, hw2⟩
    · have h1 := ih i j hi hj hw
      have h2 := Int.mul_le_mul_of_nonneg_left h1 (Int.le_of_lt hA)
      have h3 := Int.mul_le_mul_of_nonneg_right hAB (show 0 ≤ B * x i from Int.mul_nonneg (Int.le_of_lt hB) (Int.le_of_lt hxi))
      rw [Int.mul_assoc, Int.mul_assoc]
      omega
    · have h1 := ih i k hi (by omega) hw1
      have h2 := ih k j (by omega) hj hw2
      have h3 := Int.mul_le_mul_of_nonneg_left h2 (Int.le_of_lt hA)
      have h4 := Int.mul_le_mul_of_nonneg_left h1 (Int.le_of_lt hB)
      have e2 : A * (B * x k) = B * (A * x k) := by grind
      rw [Int.mul_assoc, Int.mul_assoc]
      omega
theorem pow_raise {s : Nat} (t : Nat) {X Y : Int} (hY : 0 ≤ Y) (h : (100 : Int) ^ s * X ≤ 101 ^ s * Y) : (100 : Int) ^ (s + t) * X ≤ 101 ^ (s + t) * Y := by
  induction t with
  | zero => exact h
  | succ t ih =>
    have hB : (0 : Int) ≤ 101 ^ (s + t) * Y := Int.mul_nonneg (Int.le_of_lt (Int.pow_pos (by omega))) hY
    rw [← Nat.add_assoc, Int.pow_succ, Int.pow_succ]
    have e1 : (100 : Int) ^ (s + t) * 100 * X = 100 * (100 ^ (s + t) * X) := by grind
    have e2 : (101 : Int) ^ (s + t) * 101 * Y = 101 * (101 ^ (s + t) * Y) := by grind
    rw [e1, e2]
    omega
/-- the growth is at most 1: cycles alone -/
theorem below_light {m : List (List Int)} (h : Sm m) (hb : SlowM m 101 100) : LightV m := by
  obtain ⟨x, hx, hp⟩ := hb
  intro a ha
  by_cases hc : sumT m.length (fun j => if eqB m a j = true then at2 m a j else 0) ≤ 1
  · exact hc
  exfalso
  have hxa := hx a ha
  have hmono : ∀ j, j < m.length → eqB m a j = true → (100 : Int) ^ 16 * x a ≤ 101 ^ 16 * x j := by
    intro j hj he
    unfold eqB at he
    rw [Bool.and_eq_true] at he
    have h1 := path_bd h hx hp m.length (Nat.le_refl _) j a hj ha he.2
    have h4 := h.four
    have hxj := hx j hj
    generalize m.length = n at h1 h4
    match n, h4 with
    | 0, _ => exact pow_raise 15 (Int.le_of_lt hxj) h1
    | 1, _ => exact pow_raise 14 (Int.le_of_lt hxj) h1
    | 2, _ => exact pow_raise 12 (Int.le_of_lt hxj) h1
    | 3, _ => exact pow_raise 8 (Int.le_of_lt hxj) h1
    | 4, _ => exact h1
  have h1 := hp a ha
  have h2 : 100 ^ 16 * x a * sumT m.length (fun j => if eqB m a j = true then at2 m a j else 0) ≤ 101 ^ 16 * mulN m.length (at2 m) x a := by
    unfold mulN
    rw [← sumT_mul, ← sumT_mul]
    apply sumT_le
    intro j hj
    have h9 := (h.nine a j).1
    by_cases he : eqB m a j = true
    · rw [if_pos he]
      have := Int.mul_le_mul_of_nonneg_left (hmono j hj he) h9
      have e1 : (101 : Int) ^ 16 * (at2 m a j * x j) = at2 m a j * (101 ^ 16 * x j) := by grind
      rw [e1, Int.mul_comm]
      exact this
    · rw [if_neg he, Int.mul_zero]
      exact Int.mul_nonneg (by decide) (Int.mul_nonneg h9 (Int.le_of_lt (hx j hj)))
  have h3 := Int.mul_le_mul_of_nonneg_left (show 2 ≤ sumT m.length (fun j => if eqB m a j = true then at2 m a j else 0) by omega) (show 0 ≤ 100 ^ 16 * x a from Int.mul_nonneg (by decide) (Int.le_of_lt hxa))
  have e1 : (100 : Int) ^ 16 = 100000000000000000000000000000000 := by decide
  have e2 : (101 : Int) ^ 16 = 117257864492369852051862561201601 := by decide
  rw [e1] at h2 h3
  rw [e2] at h2
  omega
/-- growth at most 1, by the search -/
theorem light_floor {m : List (List Int)} (h : isSm m = true) : lightP m = decide (floorG m 100 ≤ 100) := by
  have hs := Sm.of h
  rw [Bool.eq_iff_iff, light_iff, decide_eq_true_eq]
  constructor
  · intro hl
    have := floorG_le hs (by omega) (by omega) (light_below hs hl)
    omega
  · intro hf
    apply below_light hs
    obtain ⟨-, -, -, hy⟩ := hs.floor (d := 100) (by omega) (by omega)
    exact hy.mono (by omega)
end Go.Mx

/- Plain laws: two graphs joined, and their pairs. No dump is imported. -/
namespace Go.Mx
open Go

theorem tabF_row_length {R C : Nat} {F : Nat → Nat → Int} {i : Nat} (h : i < R) : ((tabF R C F).getD i []).length = C := by rw [tabF_row _ _ _ _ h, rowF_length]
/-- a whole row at once -/
theorem fill_whole {R C : Nat} {F : Nat → Nat → Int} (i : Nat) : (tabF R C (maskF (doneB i 0) F)).set i (rowF C (F i)) = tabF R C (maskF (doneB (i + 1) 0) F) := by
  rw [tabF_set_row]
  apply tabF_congr
  intro p q _ _
  by_cases e : p = i
  · subst e
    have h : doneB (p + 1) 0 p q = true := by simp [doneB]
    simp [maskF, h]
  · have h : doneB (i + 1) 0 p q = doneB i 0 p q := by rw [Bool.eq_iff_iff]; simp [doneB]; omega
    simp only [if_neg e, maskF, h]

theorem fill_row_zero {R C : Nat} {F : Nat → Nat → Int} {i j : Nat} (h : i < R) (hz : ∀ q, q < j → F i q = 0) : (tabF R C (maskF (doneB i j) F)).getD i [] = rowF C fun _ => 0 := by
  rw [tabF_row _ _ _ _ h]
  apply rowF_congr
  intro q _
  unfold maskF
  split
  · next h1 =>
    simp [doneB] at h1
    exact hz q h1
  · rfl
theorem fill_skip {R C d : Nat} {F : Nat → Nat → Int} {i : Nat} (h : ∀ q, q < d → F i q = 0) : tabF R C (maskF (doneB i 0) F) = tabF R C (maskF (doneB i d) F) := by
  apply mask_same
  intro p q _ _
  by_cases h3 : p = i ∧ q < d
  · obtain ⟨rfl, h3⟩ := h3
    exact .inr (h q h3)
  · left; rw [Bool.eq_iff_iff]; simp [doneB]; omega
def joinF (a b : List (List Int)) (p q : Nat) : Int := if p < a.length then (if q < a.length then at2 a p q else 0) else (if q < a.length then 0 else at2 b (p - a.length) (q - a.length))
def joinM (a b : List (List Int)) : List (List Int) := tabF (a.length + b.length) (a.length + b.length) (joinF a b)
def joinO (a b : List (List Int)) : Option (List (List Int)) := if (isMat a && isMat b) = true ∧ a.length + b.length ≤ 9 then some (joinM a b) else none
theorem joinO_no {a b : List (List Int)} (h : (isMat a && isMat b) = false) : joinO a b = none := by unfold joinO; rw [h]; simp
theorem joinO_long {a b : List (List Int)} (h : ¬ a.length + b.length ≤ 9) : joinO a b = none := by unfold joinO; rw [if_neg (by simp [h])]
theorem joinO_yes {a b : List (List Int)} (h : (isMat a && isMat b) = true) (h2 : a.length + b.length ≤ 9) : joinO a b = some (joinM a b) := by unfold joinO; rw [if_pos ⟨h, h2⟩]
theorem isMat_long {m : List (List Int)} (h : ¬ m.length ≤ 9) : isMat m = false := isMat_size (by omega)
theorem IsM.at2_bd {n : Nat} {m : List (List Int)} (h : IsM n m) (i j : Nat) : 0 ≤ at2 m i j ∧ at2 m i j ≤ 1000000 := ⟨h.low i j, h.high i j⟩
theorem joinF_bd {a b : List (List Int)} (ha : IsM a.length a) (hb : IsM b.length b) (p q : Nat) : 0 ≤ joinF a b p q ∧ joinF a b p q ≤ 1000000 := by
  unfold joinF
  split <;> split
  · exact ha.at2_bd _ _
  · omega
  · omega
  · exact hb.at2_bd _ _
theorem joinM_mat {a b : List (List Int)} (ha : IsM a.length a) (hb : IsM b.length b) : isMat (joinM a b) = decide (a.length + b.length ≤ 9) := by
  by_cases h : a.length + b.length ≤ 9
  · rw [decide_eq_true h]
    exact tabF_isMat (by have := ha.pos; omega) h fun i j _ _ => joinF_bd ha hb i j
  · rw [decide_eq_false h]
    exact isMat_long (by unfold joinM; rw [tabF_length]; exact h)
theorem splice_icells (xs ys : List Int) (off : Nat) : splice (icells xs) off (icells ys) = icells (splice xs off ys) := by
  simp [splice, icells]
theorem splice_at (xs ys : List Int) (off q : Nat) (h : off + ys.length ≤ xs.length) : (splice xs off ys)[q]? = if q < off then xs[q]? else if q < off + ys.length then ys[q - off]? else xs[q]? := by
  unfold splice
  have htl : (xs.take off).length = off := by rw [List.length_take]; omega
  by_cases h1 : q < off
  · rw [if_pos h1, List.getElem?_append_left (by omega), List.getElem?_take, if_pos h1]
  · rw [if_neg h1, List.getElem?_append_right (by omega), htl]
    by_cases h2 : q < off + ys.length
    · rw [if_pos h2, List.getElem?_append_left (by omega)]
    · rw [if_neg h2, List.getElem?_append_right (by omega), List.getElem?_drop]
      congr 1
      omega
theorem rowF_at? (C : Nat) (f : Nat → Int) (q : Nat) : (rowF C f)[q]? = if q < C then some (f q) else none := by
  by_cases h : q < C
  · simp [rowF, h]
  · rw [if_neg h, List.getElem?_eq_none (by rw [rowF_length]; omega)]
theorem row_at? {r : List Int} {q : Nat} (h : q < r.length) : r[q]? = some (r.getD q 0) := by
  rw [List.getD_eq_getElem?_getD, List.getElem?_eq_getElem h]; rfl
/-- the first rows: those of a -/
theorem join_row_a {a b : List (List Int)} {i : Nat} (ha : IsM a.length a) (hi : i < a.length) : splice (icells (rowF (a.length + b.length) fun _ => 0)) 0 (icells (a.getD i [])) = icells (rowF (a.length + b.length) (joinF a b i)) := by
  have hl := ha.row i hi
  rw [splice_icells]
  congr 1
  apply List.ext_getElem?
  intro q
  rw [splice_at _ _ _ _ (by rw [hl, rowF_length]; omega), rowF_at?, rowF_at?, hl]
  unfold joinF
  simp only [if_pos hi]
  by_cases hq : q < a.length
  · rw [if_neg (by omega), if_pos (by omega), if_pos (by omega), row_at? (by omega), if_pos hq]; rfl
  · rw [if_neg (by omega), if_neg (by omega), if_neg hq]
theorem join_row_b {a b : List (List Int)} {i : Nat} (hb : IsM b.length b) (hi : i < b.length) : splice (icells (rowF (a.length + b.length) fun _ => 0)) a.length (icells (b.getD i [])) = icells (rowF (a.length + b.length) (joinF a b (a.length + i))) := by
  have hl := hb.row i hi
  rw [splice_icells]
  congr 1
  apply List.ext_getElem?
  intro q
  rw [splice_at _ _ _ _ (by rw [hl, rowF_length]; omega), rowF_at?, rowF_at?, hl]
  unfold joinF
  simp only [if_neg (show ¬ a.length + i < a.length by omega)]
  by_cases hq : q < a.length
  · rw [if_pos hq, if_pos hq]
  · rw [if_neg hq, if_neg hq]
    by_cases hq2 : q < a.length + b.length
    · rw [if_pos hq2, if_pos hq2, row_at? (by omega), Nat.add_sub_cancel_left]; rfl
    · simp only [if_neg hq2]
theorem isMat_size9 {m : List (List Int)} (h : IsM m.length m) : sizeM m ≤ 81 := by
  have h9 := h.le
  have key : ∀ k, k ≤ m.length → sizeM (m.take k) ≤ 9 * k := by
    intro k
    induction k with
    | zero => intro _; simp [sizeM]
    | succ k ih =>
      intro hk
      have := ih (by omega)
      rw [sizeM_take m k (by omega), h.row k (by omega)]
      omega
  have := key m.length (Nat.le_refl _)
  rw [sizeM_all] at this
  omega
end Go.Mx

/- Plain laws: a number on the diagonal less a multiple of a matrix; first rows and columns. No dump is imported. -/
namespace Go.Mx
open Go

def lessTo (m : List (List Int)) (q d : Int) (i j p r : Nat) : Int := if p < i then lessF m q d p r else if p = i ∧ r < j then -(d * at2 m p r) else 0
theorem lessTo_zero (m : List (List Int)) (q d : Int) (n : Nat) : tabF n n (lessTo m q d 0 0) = tabF n n (fun _ _ => 0) := by
  apply tabF_congr
  intro p r _ _
  unfold lessTo
  rw [if_neg (by omega), if_neg (by omega)]
theorem lessTo_set (m : List (List Int)) (q d : Int) (n i j : Nat) (hi : i < n) : setM (tabF n n (lessTo m q d i j)) i j (-(d * at2 m i j)) = tabF n n (lessTo m q d i (j + 1)) := by
  rw [setM_tabF _ _ _ _ _ hi]
  apply tabF_congr
  intro p r _ _
  unfold updF lessTo
  by_cases e : p = i ∧ r = j
  · obtain ⟨rfl, rfl⟩ := e
    rw [if_pos ⟨rfl, rfl⟩, if_neg (by omega), if_pos (by omega)]
  · rw [if_neg e]
    by_cases h : p < i
    · rw [if_pos h, if_pos h]
    · rw [if_neg h, if_neg h]
      by_cases h2 : p = i ∧ r < j
      · rw [if_pos h2, if_pos (by omega)]
      · rw [if_neg h2, if_neg (by omega)]
theorem lessTo_diag (m : List (List Int)) (q d : Int) (n i : Nat) (hi : i < n) : setM (tabF n n (lessTo m q d i n)) i i (-(d * at2 m i i) + q) = tabF n n (lessTo m q d (i + 1) 0) := by
  rw [setM_tabF _ _ _ _ _ hi]
  apply tabF_congr
  intro p r _ hr
  unfold updF lessTo
  by_cases e : p = i ∧ r = i
  · obtain ⟨rfl, rfl⟩ := e
    rw [if_pos ⟨rfl, rfl⟩, if_pos (by omega)]
    unfold lessF
    rw [if_pos rfl]; omega
  · rw [if_neg e]
    by_cases h : p < i
    · rw [if_pos h, if_pos (by omega)]
    · rw [if_neg h]
      by_cases h2 : p = i
      · subst h2
        rw [if_pos ⟨rfl, hr⟩, if_pos (by omega)]
        unfold lessF
        rw [if_neg (by omega)]; omega
      · rw [if_neg (by omega), if_neg (by omega), if_neg (by omega)]
theorem lessTo_at (m : List (List Int)) (q d : Int) (n i : Nat) (hi : i < n) : ((tabF n n (lessTo m q d i n)).getD i []).getD i 0 = -(d * at2 m i i) := by
  rw [tabF_at _ _ _ _ _ hi hi]
  unfold lessTo
  rw [if_neg (by omega), if_pos ⟨rfl, hi⟩]
theorem lessTo_all (m : List (List Int)) (q d : Int) (n : Nat) : tabF n n (lessTo m q d n 0) = tabF n n (lessF m q d) := by
  apply tabF_congr
  intro p r hp _
  unfold lessTo
  rw [if_pos hp]
theorem take_tabF (n k : Nat) (h : k ≤ n) (F : Nat → Nat → Int) : ((tabF n n F).take k).map (fun r => r.take k) = tabF k k F := by
  have hr : ∀ N (f : Nat → Int), k ≤ N → (rowF N f).take k = rowF k f := by
    intro N f hN
    unfold rowF
    rw [← List.map_take, List.take_range, Nat.min_eq_left hN]
  unfold tabF
  rw [← List.map_take, List.take_range, Nat.min_eq_left h, List.map_map]
  apply List.map_congr_left
  intro i _
  exact hr n (F i) h
end Go.Mx
namespace Go
open Go.RowKit
theorem ReadsI.take {w : World} {a : Option Addr} {n c : Nat} {xs : List Int} (h : ReadsI w (.slice a n c) xs) (k : Nat) (hk : k ≤ n) : ReadsI w (.slice a k c) (xs.take k) := by
  obtain ⟨hn, h1, h2⟩ := h.len
  have hl : (xs.take k).length = k := by rw [List.length_take]; omega
  refine ⟨a, c, by rw [List.length_map, hl], by rw [List.length_map, hl]; omega, by unfold maxLen; omega, fun i hi => ?_⟩
  rw [List.length_map, hl] at hi
  obtain ⟨b, o, ha, hc⟩ := h.at i (by omega)
  refine ⟨b, o, ha, ?_⟩
  rw [hc]
  simp [List.getD_eq_getElem?_getD, List.getElem?_eq_getElem (show i < xs.length by omega)]
end Go

/- Plain laws: square tables of bounded numbers. No dump is imported. -/
namespace Go.Mx
open Go
def sqRow (n : Nat) (r : List Int) : Bool := decide (r.length = n) && r.all fun x => decide (-10000 ≤ x ∧ x ≤ 10000)
def sqOk (t : List (List Int)) : Bool := t.all (sqRow t.length) && decide (t.length ≤ 4)
theorem sqRow_len {n : Nat} {r : List Int} (h : ¬ r.length = n) : sqRow n r = false := by simp [sqRow, h]
theorem sqRow_of {n : Nat} {r : List Int} (h : r.length = n) : sqRow n r = r.all fun x => decide (-10000 ≤ x ∧ x ≤ 10000) := by simp [sqRow, h]
theorem sqRow_bad {n : Nat} {r : List Int} {j : Nat} (hj : j < r.length) (h : r.getD j 0 < -10000 ∨ 10000 < r.getD j 0) : sqRow n r = false := by
  unfold sqRow
  rw [all_bad (p := fun x => decide (-10000 ≤ x ∧ x ≤ 10000)) 0 hj (by simp only [decide_eq_false_iff_not]; omega), Bool.and_false]
theorem sqOk_long {t : List (List Int)} (h : ¬ t.length ≤ 4) : sqOk t = false := by unfold sqOk; rw [decide_eq_false h, Bool.and_false]
theorem sqOk_row {t : List (List Int)} {k : Nat} (hk : k < t.length) (h : sqRow t.length (t.getD k []) = false) : sqOk t = false := by
  unfold sqOk; rw [all_bad (p := sqRow t.length) [] hk h, Bool.false_and]
theorem sqOk_all {t : List (List Int)} (h2 : (t.take t.length).all (sqRow t.length) = true) : sqOk t = decide (t.length ≤ 4) := by unfold sqOk; rw [all_done h2, Bool.true_and]
theorem sqOk_yes {t : List (List Int)} (h : sqOk t = true) : Sq t.length 10000 t ∧ t.length ≤ 4 := by
  simp only [sqOk, Bool.and_eq_true, decide_eq_true_eq, List.all_eq_true, sqRow] at h
  obtain ⟨h3, h2⟩ := h
  have hx : ∀ i j, -10000 ≤ (t.getD i []).getD j 0 ∧ (t.getD i []).getD j 0 ≤ 10000 := by
    intro i j
    rcases getD_mem_or t i [] with hm | hm
    · rcases getD_mem_or (t.getD i []) j 0 with hj | hj
      · exact (h3 _ hm).2 _ hj
      · rw [hj]; omega
    · rw [hm]; simp
  refine ⟨⟨rfl, fun i hi => ?_, fun i j => (hx i j).1, fun i j => (hx i j).2⟩, h2⟩
  have hm : t.getD i [] ∈ t := by rw [List.getD_eq_getElem?_getD, List.getElem?_eq_getElem hi]; exact List.getElem_mem hi
  exact (h3 _ hm).1
/-- the determinant, or 0 -/
def detV (t : List (List Int)) : Int := if sqOk t = true then detL t.length t else 0
theorem detV_yes {t : List (List Int)} (h : sqOk t = true) : detV t = detL t.length t := if_pos h
theorem detV_no {t : List (List Int)} (h : sqOk t = false) : detV t = 0 := if_neg (by simp [h])
theorem isSm_sq {m : List (List Int)} (h : isSm m = true) : Sq m.length 10000 m ∧ m.length ≤ 4 := by
  obtain ⟨h1, h2, h3⟩ := isSm_yes h
  exact ⟨⟨h1.len, h1.row, fun i j => by have := h1.low i j; omega, fun i j => by have := h3 i j; omega⟩, h2⟩
end Go.Mx

/- Plain words and codes: letters, powers. No program in sight. -/
namespace Go.Cm
open Go.RowKit

/-- a power -/
def pw (k n : Int) : Int := k ^ n.toNat
theorem pw_zero (k : Int) : pw k 0 = 1 := by simp [pw]
theorem pw_succ (k : Int) (n : Nat) : pw k ((n : Int) + 1) = pw k n * k := by
  unfold pw
  have h : ((n : Int) + 1).toNat = n + 1 := by omega
  have h' : ((n : Int)).toNat = n := by omega
  rw [h, h', Int.pow_succ]
theorem pw_nonneg {k : Int} (h : 0 ≤ k) (n : Nat) : 0 ≤ pw k n := by
  induction n with
  | zero => simp [pw]
  | succ n ih =>
    have : ((n + 1 : Nat) : Int) = (n : Int) + 1 := by omega
    rw [this, pw_succ]
    exact Int.mul_nonneg ih h
theorem pw_le {k : Int} (h0 : 0 ≤ k) (h3 : k ≤ 3) (n : Nat) : pw k n ≤ 3 ^ n := by
  induction n with
  | zero => simp [pw]
  | succ n ih =>
    have e : ((n + 1 : Nat) : Int) = (n : Int) + 1 := by omega
    rw [e, pw_succ, Int.pow_succ]
    exact Int.mul_le_mul ih h3 h0 (Int.le_trans (pw_nonneg h0 n) ih)
theorem pow3_le {n : Nat} (h : n ≤ 16) : (3 : Int) ^ n ≤ 43046721 := by
  have : (3 : Nat) ^ n ≤ 3 ^ 16 := Nat.pow_le_pow_right (by omega) h
  have e : (3 : Int) ^ n = ((3 ^ n : Nat) : Int) := by simp
  rw [e]
  have e2 : (3 : Nat) ^ 16 = 43046721 := by decide
  omega
theorem pw_bd {k n : Int} (h0 : 0 ≤ k) (h3 : k ≤ 3) (hn : 0 ≤ n) (h16 : n ≤ 16) : 0 ≤ pw k n ∧ pw k n ≤ 43046721 := by
  obtain ⟨m, rfl⟩ := Int.eq_ofNat_of_zero_le hn
  exact ⟨pw_nonneg h0 m, Int.le_trans (pw_le h0 h3 m) (pow3_le (by omega))⟩

/-- one letter of the first k -/
def isLet (k : Int) (c : UInt8) : Bool := decide (97 ≤ (c.toNat : Int)) && decide ((c.toNat : Int) - 97 < k)
/-- letters alone -/
def areLet (k : Int) (l : List UInt8) : Bool := l.all (isLet k)

theorem take_snoc (s : ByteArray) (k : Nat) (h : k < s.size) : s.data.toList.take (k + 1) = s.data.toList.take k ++ [s[k]] := by
  rw [List.take_succ_eq_append_getElem (by simpa using h)]; rfl
theorem take_all (s : ByteArray) : s.data.toList.take s.size = s.data.toList := List.take_of_length_le (by simp)
theorem areLet_snoc {k : Int} {s : ByteArray} {n : Nat} (h : n < s.size) (hp : areLet k (s.data.toList.take n) = true) (h1 : 97 ≤ (s[n].toNat : Int)) (h2 : (s[n].toNat : Int) - 97 < k) : areLet k (s.data.toList.take (n + 1)) = true := by
  rw [take_snoc s n h]
  simp only [areLet, List.all_append] at hp ⊢
  simp [hp, isLet, h1, h2]
theorem areLet_bad {k : Int} {s : ByteArray} {n : Nat} (h : n < s.size) (h1 : ¬ (97 ≤ (s[n].toNat : Int) ∧ (s[n].toNat : Int) - 97 < k)) : areLet k s.data.toList = false := by
  unfold areLet
  rw [List.all_eq_false]
  refine ⟨s[n], ?_, ?_⟩
  · have : s.data.toList[n]'(by simpa using h) = s[n] := rfl
    rw [← this]; exact List.getElem_mem _
  · simp only [isLet, Bool.and_eq_true, decide_eq_true_eq]
    exact h1
theorem areLet_all {k : Int} {s : ByteArray} (hp : areLet k (s.data.toList.take s.size) = true) : areLet k s.data.toList = true := by rwa [take_all] at hp

/-- What a code is. -/
def codeOk (L W : Int) (s : ByteArray) : Bool := (decide (L = 2) || decide (L = 3)) && (decide (1 ≤ W) && (decide (W ≤ 4) && (decide (pw L W ≤ 27) && (decide ((s.size : Int) = pw L W) && areLet L s.data.toList))))
end Go.Cm

/- Words by their index. No program in sight. -/
namespace Go.Cm

/-- the letter at an index -/
def letN (y : Nat) : UInt8 := UInt8.ofNat (97 + y)

/-- The word of length n with k letters at an index. -/
def wordL (k : Nat) : Nat → Nat → List UInt8
  | 0, _ => []
  | n + 1, i => wordL k n (i / k) ++ [letN (i % k)]
theorem wordL_length (k : Nat) : ∀ n i, (wordL k n i).length = n
  | 0, _ => rfl
  | n + 1, i => by simp [wordL, wordL_length k n]

/-- All words of a length. -/
def wordsL (k n : Nat) : List (List UInt8) := (List.range (k ^ n)).map (wordL k n)
/-- as texts -/
def mkS (l : List UInt8) : ByteArray := ⟨l.toArray⟩
theorem mkS_size (l : List UInt8) : (mkS l).size = l.length := by simp [mkS, ByteArray.size]
theorem mkS_data (l : List UInt8) : (mkS l).data.toList = l := by simp [mkS]

theorem mkS_get (l : List UInt8) (a : Nat) (h : a < (mkS l).size) : (mkS l)[a] = l.getD a 0 := by
  have h' : a < l.length := by rw [← mkS_size]; exact h
  show (mkS l).data[a]'h = _
  simp [mkS, List.getD_eq_getElem?_getD, List.getElem?_eq_getElem h']
theorem mkS_data_self (s : ByteArray) : mkS s.data.toList = s := by
  obtain ⟨⟨l⟩⟩ := s
  rfl

theorem mkS_append (l r : List UInt8) : mkS l ++ mkS r = mkS (l ++ r) := by
  show ByteArray.append _ _ = _
  apply ByteArray.ext
  simp [mkS, ByteArray.append]
theorem abc_at (y : Nat) (h : y < 3) : (ByteArray.mk #[97, 98, 99]).extract y (y + 1) = mkS [letN y] := by
  match y, h with
  | 0, _ => rfl
  | 1, _ => rfl
  | 2, _ => rfl

theorem mkS_slice (u : List UInt8) (a : Nat) (h : a < u.length) : (mkS u).extract a (a + 1) = mkS [u.getD a 0] := by
  apply ByteArray.ext
  apply Array.ext'
  rw [Lib.extract_data, mkS_data, mkS_data]
  rw [List.getD_eq_getElem?_getD, List.getElem?_eq_getElem h]
  rw [List.drop_eq_getElem_cons h, show a + 1 - a = 1 by omega]
  rfl

theorem range_mul (m k : Nat) : List.range (m * k) = (List.range m).flatMap fun q => (List.range k).map fun x => q * k + x := by
  induction m with
  | zero => simp
  | succ m ih =>
    rw [List.range_succ, List.flatMap_append, ← ih, Nat.succ_mul, List.range_add]
    simp

theorem wordsL_succ (k n : Nat) (hk : 0 < k) : wordsL k (n + 1) = (wordsL k n).flatMap fun u => (List.range k).map fun x => u ++ [letN x] := by
  unfold wordsL
  rw [Nat.pow_succ, range_mul, List.map_flatMap, List.flatMap_map]
  congr 1
  funext q
  rw [List.map_map]
  apply List.map_congr_left
  intro x hx
  have hx' : x < k := by simpa using hx
  simp only [Function.comp, wordL]
  have h1 : (q * k + x) / k = q := by
    rw [Nat.add_comm, Nat.add_mul_div_right _ _ hk, Nat.div_eq_of_lt hx', Nat.zero_add]
  have h2 : (q * k + x) % k = x := by
    rw [Nat.add_comm, Nat.add_mul_mod_self_right, Nat.mod_eq_of_lt hx']
  rw [h1, h2]
theorem wordsL_zero (k : Nat) : wordsL k 0 = [[]] := by simp [wordsL, wordL]

theorem ofNat_toNat {n : Nat} (h : n < 256) : ((UInt8.ofNat n).toNat : Int) = n := by
  have : (UInt8.ofNat n).toNat = n % 256 := by simp
  rw [this, Nat.mod_eq_of_lt h]
end Go.Cm

/- Codes on words. No program in sight. -/
namespace Go.Cm

/-- what a word is -/
def wordOk (k : Int) (s : ByteArray) : Bool := (decide (1 ≤ k) && decide (k ≤ 3)) && (decide (s.size ≤ 16) && areLet k s.data.toList)

/-- the index of a word -/
def idxL (k : Nat) (u : List UInt8) : Nat := u.foldl (fun n c => n * k + (c.toNat - 97)) 0
theorem idxL_snoc (k : Nat) (u : List UInt8) (c : UInt8) : idxL k (u ++ [c]) = idxL k u * k + (c.toNat - 97) := by simp [idxL]
theorem areLet_append (k : Int) (u v : List UInt8) : areLet k (u ++ v) = (areLet k u && areLet k v) := by simp [areLet]
theorem snoc_induction {p : List UInt8 → Prop} (h0 : p []) (hs : ∀ u c, p u → p (u ++ [c])) (u : List UInt8) : p u := by
  have : ∀ n (u : List UInt8), u.length = n → p u := by
    intro n
    induction n with
    | zero => intro u hu; have : u = [] := List.eq_nil_of_length_eq_zero hu; rw [this]; exact h0
    | succ n ih =>
      intro u hu
      have hne : u ≠ [] := by intro h; rw [h] at hu; simp at hu
      rw [← List.dropLast_concat_getLast hne]
      exact hs _ _ (ih _ (by rw [List.length_dropLast]; omega))
  exact this u.length u rfl
theorem idxL_lt (k : Nat) (u : List UInt8) : areLet k u = true → idxL k u < k ^ u.length := by
  refine snoc_induction (p := fun u => areLet k u = true → idxL k u < k ^ u.length) ?_ ?_ u
  · intro _; simp [idxL]
  · intro u c ih h
    rw [areLet_append] at h
    simp only [Bool.and_eq_true] at h
    have h1 := ih h.1
    have h2 : c.toNat - 97 < k := by
      have := h.2
      simp [areLet, isLet] at this
      omega
    rw [idxL_snoc, List.length_append, List.length_singleton, Nat.pow_succ]
    have h3 : (idxL k u + 1) * k ≤ k ^ u.length * k := Nat.mul_le_mul_right k h1
    rw [Nat.succ_mul] at h3
    omega

/-- the letter that a code gives to a word of its width -/
def givesL (K : Nat) (o : ByteArray) (u : List UInt8) : UInt8 := o.data.toList.getD (idxL K u) 0
/-- the part of a word -/
def partL (W i : Nat) (u : List UInt8) : List UInt8 := (u.drop i).take W
theorem partL_length {W i : Nat} {u : List UInt8} (h : i + W ≤ u.length) : (partL W i u).length = W := by simp [partL]; omega
theorem areLet_part {k : Int} {u : List UInt8} (W i : Nat) (h : areLet k u = true) : areLet k (partL W i u) = true := by
  unfold areLet at *
  rw [List.all_eq_true] at *
  intro c hc
  exact h c (List.mem_of_mem_drop (List.mem_of_mem_take hc))
/-- the letters for all parts -/
def applyL (K W : Nat) (o : ByteArray) (u : List UInt8) : List UInt8 := (List.range (u.length + 1 - W)).map fun i => givesL K o (partL W i u)
def applyTo (K W : Nat) (o : ByteArray) (u : List UInt8) (k : Nat) : List UInt8 := (List.range k).map fun i => givesL K o (partL W i u)
theorem applyTo_succ (K W : Nat) (o : ByteArray) (u : List UInt8) (k : Nat) : applyTo K W o u (k + 1) = applyTo K W o u k ++ [givesL K o (partL W k u)] := by simp [applyTo, List.range_succ]
theorem applyTo_length (K W : Nat) (o : ByteArray) (u : List UInt8) (k : Nat) : (applyTo K W o u k).length = k := by simp [applyTo]

theorem extract_part (s : ByteArray) (i W : Nat) : s.extract i (i + W) = mkS (partL W i s.data.toList) := by
  apply ByteArray.ext
  apply Array.ext'
  rw [Lib.extract_data, mkS_data]
  unfold partL
  rw [show i + W - i = W by omega]

/-- a code's parts -/
theorem codeOk_parts {L W : Int} {o : ByteArray} (h : codeOk L W o = true) : ∃ K n : Nat, L = K ∧ W = n ∧ 2 ≤ K ∧ K ≤ 3 ∧ 1 ≤ n ∧ n ≤ 4 ∧ K ^ n ≤ 27 ∧ o.size = K ^ n ∧ areLet K o.data.toList = true := by
  unfold codeOk at h
  simp only [Bool.and_eq_true, Bool.or_eq_true, decide_eq_true_eq] at h
  obtain ⟨hL, h1, h4, h27, hs, ha⟩ := h
  obtain ⟨K, rfl⟩ := Int.eq_ofNat_of_zero_le (show 0 ≤ L by omega)
  obtain ⟨n, rfl⟩ := Int.eq_ofNat_of_zero_le (show 0 ≤ W by omega)
  have hp : pw (K : Int) (n : Int) = ((K ^ n : Nat) : Int) := by simp [pw]
  rw [hp] at h27 hs
  exact ⟨K, n, rfl, rfl, by omega, by omega, by omega, by omega, by omega, by omega, ha⟩
end Go.Cm
namespace Go.Cm
theorem isLet_getD {k : Int} {l : List UInt8} (h : areLet k l = true) {i : Nat} (hi : i < l.length) : isLet k (l.getD i 0) = true := by
  unfold areLet at h
  rw [List.all_eq_true] at h
  rw [List.getD_eq_getElem?_getD, List.getElem?_eq_getElem hi]
  exact h _ (List.getElem_mem _)
theorem areLet_apply {K n : Nat} {o : ByteArray} (hos : o.size = K ^ n) (hoa : areLet K o.data.toList = true) {u : List UInt8} (hu : areLet K u = true) : areLet K (applyL K n o u) = true := by
  unfold areLet
  rw [List.all_eq_true]
  intro c hc
  simp only [applyL, List.mem_map, List.mem_range] at hc
  obtain ⟨i, hi, rfl⟩ := hc
  refine isLet_getD hoa ?_
  have hpl : (partL n i u).length = n := partL_length (by omega)
  have := idxL_lt K (partL n i u) (areLet_part n i hu)
  rw [hpl, ← hos] at this
  simpa using this
theorem applyL_length (K n : Nat) (o : ByteArray) (u : List UInt8) : (applyL K n o u).length = u.length + 1 - n := by simp [applyL]
theorem areLet_wordL (K : Nat) (hK0 : 0 < K) (hK : K ≤ 3) : ∀ n i, areLet K (wordL K n i) = true
  | 0, _ => rfl
  | n + 1, i => by
    have hm : i % K < K := Nat.mod_lt _ hK0
    rw [wordL, areLet_append, areLet_wordL K hK0 hK n]
    have h2 : ((letN (i % K)).toNat : Int) = ((97 + i % K : Nat) : Int) := by unfold letN; exact ofNat_toNat (by omega)
    simp [areLet, isLet, h2]
    omega
theorem mem_wordsL {K n : Nat} {u : List UInt8} (h : u ∈ wordsL K n) (hK0 : 0 < K) (hK : K ≤ 3) : u.length = n ∧ areLet K u = true := by
  simp only [wordsL, List.mem_map] at h
  obtain ⟨i, _, rfl⟩ := h
  exact ⟨wordL_length K n i, areLet_wordL K hK0 hK n i⟩
/-- a code behind another one -/
def composeL (K m : Nat) (o o' : ByteArray) (u : List UInt8) : UInt8 := givesL K o (applyL K m o' u)
end Go.Cm

/- Plain laws: products and powers. No dump is imported. -/
namespace Go.Mx
open Go

theorem mulM_length (n : Nat) (a b : List (List Int)) : (mulM n a b).length = n := tabF_length _ _ _
theorem mulO_no {a b : List (List Int)} (h : (isMat a && isMat b) = false) : mulO a b = none := by
  unfold mulO
  rw [if_neg]
  rintro ⟨h1, h2, _⟩
  rw [h1, h2] at h; cases h
theorem mulO_len {a b : List (List Int)} (h : ¬ a.length = b.length) : mulO a b = none := by
  unfold mulO
  rw [if_neg]
  rintro ⟨_, _, h3, _⟩
  exact h h3
theorem mulO_bad {a b : List (List Int)} (h : isMat (mulM b.length a b) = false) : mulO a b = none := by
  unfold mulO
  rw [if_neg]
  rintro ⟨_, _, _, h4⟩
  rw [h] at h4; cases h4
theorem mulO_yes {a b : List (List Int)} (h : (isMat a && isMat b) = true) (h2 : a.length = b.length) (h3 : isMat (mulM b.length a b) = true) : mulO a b = some (mulM b.length a b) := by
  rw [Bool.and_eq_true] at h
  unfold mulO
  rw [if_pos ⟨h.1, h.2, h2, h3⟩]
theorem mulO_mat {a b r : List (List Int)} (h : mulO a b = some r) : isMat r = true := by
  unfold mulO at h
  split at h
  · next hc => cases h; exact hc.2.2.2
  · cases h
def idF (i j : Nat) : Int := if i = j then 1 else 0
theorem unitM_eq (n : Nat) : unitM n = tabF n n idF := rfl
def upB (i p _q : Nat) : Bool := decide (p < i)
theorem unit_set {n i : Nat} (hi : i < n) : setM (tabF n n (maskF (upB i) idF)) i i 1 = tabF n n (maskF (upB (i + 1)) idF) := by
  have h := mask_set (R := n) (C := n) (F := idF) (D := upB i) (D' := fun p q => upB i p q || (decide (p = i) && decide (q = i))) (i := i) (j := i) hi fun p q _ _ => rfl
  have e : idF i i = 1 := if_pos rfl
  rw [e] at h
  rw [h]
  apply mask_same
  intro p q _ _
  by_cases hp : p = i ∧ q ≠ i
  · right
    unfold idF
    rw [if_neg]
    intro e2
    exact hp.2 (e2 ▸ hp.1)
  · left
    rw [Bool.eq_iff_iff]; simp [upB]; omega
theorem unit_zero {n : Nat} : tabF n n (fun _ _ => 0) = tabF n n (maskF (upB 0) idF) := (mask_none fun p q _ _ => .inl (by simp [upB])).symm
theorem unit_all {n : Nat} : tabF n n (maskF (upB n) idF) = unitM n := mask_all fun p q hp _ => .inl (by simp [upB]; exact hp)
theorem powM_none {m : List (List Int)} {k : Nat} (h : powM m k = none) : ∀ j, powM m (k + j) = none
  | 0 => h
  | j + 1 => by
    have := powM_none h j
    rw [← Nat.add_assoc]
    unfold powM
    rw [this]; rfl
theorem powM_succ {m x : List (List Int)} {k : Nat} (h : powM m k = some x) : powM m (k + 1) = mulO x m := by
  conv => lhs; unfold powM
  rw [h]; rfl
theorem powM_late {m : List (List Int)} {k N : Nat} (h : powM m k = none) (hk : k ≤ N) : powM m N = none := by
  have := powM_none h (N - k)
  rwa [show k + (N - k) = N by omega] at this
def powO (m : List (List Int)) (n : Int) : Option (List (List Int)) := if isMat m = true ∧ 0 ≤ n ∧ n ≤ 30 then powM m n.toNat else none
def powG (m : List (List Int)) (n : Int) : Option (List (List Int)) := if 1 ≤ n then powO m n else none
theorem powO_no {m : List (List Int)} {n : Int} (h : isMat m = false) : powO m n = none := by unfold powO; rw [h]; simp
theorem powO_far {m : List (List Int)} {n : Int} (h : n < 0 ∨ 30 < n) : powO m n = none := by
  unfold powO
  rw [if_neg]
  rintro ⟨_, h1, h2⟩
  omega
theorem powO_yes {m : List (List Int)} {N : Nat} (h : isMat m = true) (h2 : N ≤ 30) : powO m (N : Int) = powM m N := by
  unfold powO
  rw [if_pos ⟨h, by omega, by omega⟩]; rfl
theorem IsM.unit {n : Nat} {m : List (List Int)} (h : IsM n m) : isMat (unitM n) = true := tabF_isMat h.pos h.le fun i j _ _ => by split <;> omega
theorem powM_mat {m : List (List Int)} (h : isMat m = true) : ∀ {k : Nat} {r : List (List Int)}, powM m k = some r → isMat r = true
  | 0, r, e => by
    simp only [powM, Option.some.injEq] at e
    rw [← e]; exact (isMat_yes h).unit
  | k + 1, r, e => by
    cases hk : powM m k with
    | none => have := powM_none hk 1; rw [this] at e; cases e
    | some x => rw [powM_succ hk] at e; exact mulO_mat e
theorem powG_size (m : List (List Int)) (n : Int) : sizeM ((powG m n).getD []) ≤ 1000000000 := by
  cases h : powG m n with
  | none => simp [sizeM]
  | some r =>
    unfold powG powO at h
    split at h
    · split at h
      · next hc =>
        have := isMat_size9 (isMat_yes (powM_mat hc.1 h))
        simp; omega
      · cases h
    · cases h
end Go.Mx

/- Plain laws: a text cut at a byte; single digits; a code's text read. No dump is imported. -/
namespace Go.Cm
open Go

/-- a text cut at each c -/
def splitL (c : UInt8) : List UInt8 → List (List UInt8)
  | [] => [[]]
  | x :: l => if x = c then [] :: splitL c l else match splitL c l with
    | p :: ps => (x :: p) :: ps
    | [] => [[x]]
theorem splitL_cons (c x : UInt8) (l : List UInt8) : splitL c (x :: l) = if x = c then [] :: splitL c l else match splitL c l with
    | p :: ps => (x :: p) :: ps
    | [] => [[x]] := rfl
theorem splitL_ne (c : UInt8) : ∀ l, splitL c l ≠ []
  | [] => by simp [splitL]
  | x :: l => by
    unfold splitL
    split
    · simp
    · split <;> simp
theorem splitL_none {c : UInt8} : ∀ {l : List UInt8}, ¬ c ∈ l → splitL c l = [l]
  | [], _ => rfl
  | x :: l, h => by
    have h1 : ¬ x = c := fun e => h (by rw [e]; exact List.mem_cons_self)
    have h2 := splitL_none (c := c) (l := l) (fun h' => h (List.mem_cons_of_mem _ h'))
    unfold splitL
    rw [if_neg h1, h2]
theorem splitL_at {c : UInt8} : ∀ {a : List UInt8} (r : List UInt8), ¬ c ∈ a → splitL c (a ++ c :: r) = a :: splitL c r
  | [], r, _ => by
    show splitL c (c :: r) = _
    rw [splitL_cons, if_pos rfl]
  | x :: a, r, h => by
    have h1 : ¬ x = c := fun e => h (by rw [e]; exact List.mem_cons_self)
    have h2 := splitL_at (c := c) (a := a) r (fun h' => h (List.mem_cons_of_mem _ h'))
    show splitL c (x :: (a ++ c :: r)) = _
    rw [splitL_cons, if_neg h1, h2]
theorem split_splitK (c : UInt8) : ∀ (n : Nat) (l : List UInt8), l.length ≤ n → Lib.splitK [c] 0 (Lib.count l [c]) l = splitL c l := by
  intro n
  induction n with
  | zero =>
    intro l hl
    have : l = [] := List.eq_nil_of_length_eq_zero (by omega)
    subst this
    have h0 : Lib.index [] [c] = -1 := rfl
    rw [Lib.count_miss h0]
    rfl
  | succ n ih =>
    intro l hl
    by_cases hm : Lib.indexByte l c = -1
    · have hi : Lib.index l [c] = -1 := by rw [Lib.index_one]; exact hm
      rw [Lib.count_miss hi, splitL_none]
      · rfl
      · intro hc
        obtain ⟨k, hk, e⟩ := List.mem_iff_getElem.1 hc
        exact Lib.indexByte_none hm k (by rw [List.getElem?_eq_getElem hk, e])
    · have hge := Lib.indexByte_ge l c
      obtain ⟨o, ho⟩ : ∃ o : Nat, Lib.indexByte l c = o := ⟨(Lib.indexByte l c).toNat, by omega⟩
      obtain ⟨h1, h2⟩ := Lib.indexByte_some ho
      have hi : Lib.index l [c] = o := by rw [Lib.index_one]; exact ho
      have hol : o < l.length := (List.getElem?_eq_some_iff.1 h1).1
      have hoe : l[o] = c := (List.getElem?_eq_some_iff.1 h1).2
      have hsplit : l = l.take o ++ c :: l.drop (o + 1) := by
        rw [← hoe, ← List.drop_eq_getElem_cons hol, List.take_append_drop]
      have hna : ¬ c ∈ l.take o := by
        intro hc
        obtain ⟨k, hk, e⟩ := List.mem_iff_getElem.1 hc
        rw [List.length_take] at hk
        rw [List.getElem_take] at e
        exact h2 k (by omega) (by rw [List.getElem?_eq_getElem (by omega), e])
      rw [Lib.count_hit (by simp) hi, show 1 + Lib.count (l.drop (o + [c].length)) [c] = Lib.count (l.drop (o + 1)) [c] + 1 by rw [Nat.add_comm]; rfl]
      have hk : Lib.splitK [c] 0 (Lib.count (l.drop (o + 1)) [c] + 1) l = l.take o :: Lib.splitK [c] 0 (Lib.count (l.drop (o + 1)) [c]) (l.drop (o + 1)) := by
        show (if Lib.index l [c] == -1 then [l] else l.take ((Lib.index l [c]).toNat + 0) :: Lib.splitK [c] 0 _ (l.drop ((Lib.index l [c]).toNat + [c].length))) = _
        rw [hi, if_neg (by simp <;> omega)]
        simp
      rw [hk, ih _ (by rw [List.length_drop]; omega)]
      conv => rhs; rw [hsplit]
      rw [splitL_at _ hna]

/-- the pieces that are cut off so far and the place where the next one begins -/
def partsTo (c : UInt8) (l : List UInt8) : Nat → List (List UInt8) × Nat
  | 0 => ([], 0)
  | i + 1 => if i < l.length ∧ ¬ l.getD i 0 = c then partsTo c l i else ((partsTo c l i).1 ++ [(l.take i).drop (partsTo c l i).2], i + 1)
theorem partsTo_skip {c : UInt8} {l : List UInt8} {i : Nat} (h : i < l.length) (hc : ¬ l.getD i 0 = c) : partsTo c l (i + 1) = partsTo c l i := if_pos ⟨h, hc⟩
theorem partsTo_cut {c : UInt8} {l : List UInt8} {i : Nat} (h : ¬ i < l.length ∨ l.getD i 0 = c) : partsTo c l (i + 1) = ((partsTo c l i).1 ++ [(l.take i).drop (partsTo c l i).2], i + 1) := by
  refine if_neg ?_
  rintro ⟨h1, h2⟩
  rcases h with h | h
  · exact h h1
  · exact h2 h
theorem partsTo_le (c : UInt8) (l : List UInt8) : ∀ i, (partsTo c l i).2 ≤ i ∧ (partsTo c l i).1.length ≤ i
  | 0 => ⟨Nat.le_refl _, Nat.le_refl _⟩
  | i + 1 => by
    have := partsTo_le c l i
    unfold partsTo
    split
    · omega
    · simp only [List.length_append, List.length_singleton]
      omega
theorem drop_split {l : List UInt8} {f i : Nat} (hf : f ≤ i) (hi : i ≤ l.length) : l.drop f = (l.take i).drop f ++ l.drop i := by
  rw [← List.drop_append_of_le_length (by rw [List.length_take]; omega), List.take_append_drop]
/-- what is cut so far, and what is still to be cut, make the whole -/
theorem partsTo_inv (c : UInt8) (l : List UInt8) : ∀ i, i ≤ l.length → splitL c l = (partsTo c l i).1 ++ splitL c (l.drop (partsTo c l i).2) ∧ ¬ c ∈ (l.take i).drop (partsTo c l i).2
  | 0, _ => ⟨rfl, by simp [partsTo]⟩
  | i + 1, hi => by
    obtain ⟨h1, h2⟩ := partsTo_inv c l i (by omega)
    have hle := (partsTo_le c l i).1
    have hg : l.getD i 0 = l[i] := by rw [List.getD_eq_getElem?_getD, List.getElem?_eq_getElem (by omega), Option.getD_some]
    by_cases hc : l.getD i 0 = c
    · rw [partsTo_cut (.inr hc)]
      refine ⟨?_, by simp⟩
      have hs : l.drop (partsTo c l i).2 = (l.take i).drop (partsTo c l i).2 ++ c :: l.drop (i + 1) := by
        rw [drop_split hle (by omega), List.drop_eq_getElem_cons (show i < l.length by omega), ← hg, hc]
      rw [h1, hs, splitL_at _ h2, List.append_assoc]
      rfl
    · rw [partsTo_skip (by omega) hc]
      refine ⟨h1, ?_⟩
      rw [List.take_succ_eq_append_getElem (by omega), List.drop_append_of_le_length (by rw [List.length_take]; omega)]
      intro hm
      rcases List.mem_append.1 hm with hm | hm
      · exact h2 hm
      · exact hc (by rw [hg]; exact (List.mem_singleton.1 hm).symm)
theorem partsTo_all (c : UInt8) (l : List UInt8) : (partsTo c l (l.length + 1)).1 = splitL c l := by
  obtain ⟨h1, h2⟩ := partsTo_inv c l l.length (Nat.le_refl _)
  rw [partsTo_cut (.inl (by omega)), h1]
  rw [List.take_of_length_le (Nat.le_refl _)] at h2 ⊢
  rw [splitL_none h2]
theorem splitL_len (c : UInt8) : ∀ l, (splitL c l).length ≤ l.length + 1
  | [] => by simp [splitL]
  | x :: l => by
    have := splitL_len c l
    unfold splitL
    split
    · simp; omega
    · split
      · next h => rw [h] at this; simp at this ⊢; omega
      · simp
theorem splitL_mem (c : UInt8) : ∀ (l : List UInt8), ∀ p ∈ splitL c l, p.length ≤ l.length
  | [], p, h => by simp [splitL] at h; simp [h]
  | x :: l, p, h => by
    have ih := splitL_mem c l
    unfold splitL at h
    split at h
    · rcases List.mem_cons.1 h with rfl | h
      · simp
      · have := ih p h; simp; omega
    · split at h
      · next q ps hq =>
        rcases List.mem_cons.1 h with rfl | h
        · have := ih q (by rw [hq]; exact List.mem_cons_self); simp; omega
        · have := ih p (by rw [hq]; exact List.mem_cons_of_mem _ h); simp; omega
      · have hp := List.mem_singleton.1 h
        rw [hp]; simp

/-! ### single digits -/
def digC (d : Nat) : UInt8 := UInt8.ofNat (48 + d)
theorem itoa_dig {d : Nat} (h : d < 10) : Lib.itoa d = [digC d] := by
  rw [Lib.itoa_nonneg, Lib.decDigits, dif_pos h]
  rfl
theorem atoiAll_dig : ∀ {d : Nat}, d < 10 → Lib.atoiAll [digC d] = .ok (d : Int)
  | 0, _ => rfl
  | 1, _ => rfl
  | 2, _ => rfl
  | 3, _ => rfl
  | 4, _ => rfl
  | 5, _ => rfl
  | 6, _ => rfl
  | 7, _ => rfl
  | 8, _ => rfl
  | 9, _ => rfl
  | n + 10, h => by omega
/-- what a reader of numerals tells: if it says yes the text is the number's numeral; and of a digit it says yes -/
def NumR (s : List UInt8) (z : Int) (b : Bool) : Prop := (b = true → s = Lib.itoa z) ∧ ∀ d, d < 10 → s = [digC d] → b = true ∧ z = d
theorem NumR.no {s : List UInt8} (h : ∀ d, d < 10 → s ≠ [digC d]) : NumR s 0 false := And.intro (fun e => by simp at e) (fun d hd e => absurd e (h d hd))
theorem NumR.yes {s : List UInt8} {z : Int} (h : s = Lib.itoa z) (hz : ∀ d : Nat, d < 10 → s = [digC d] → z = d) : NumR s z true := And.intro (fun _ => h) (fun d hd e => And.intro rfl (hz d hd e))

/-- the digit that a text is -/
def digV (p : List UInt8) : Nat := (p.getD 0 0).toNat - 48
theorem digV_dig {k : Nat} (h : k < 10) : digV [digC k] = k := by
  have h1 : (digC k).toNat = (48 + k) % 256 := rfl
  show (digC k).toNat - 48 = k
  omega
theorem digC_inj {a b : Nat} (ha : a < 10) (hb : b < 10) (h : digC a = digC b) : a = b := by
  have h1 : (digC a).toNat = (48 + a) % 256 := rfl
  have h2 : (digC b).toNat = (48 + b) % 256 := rfl
  have := congrArg UInt8.toNat h
  omega
/-- a code's text read -/
def parseC (s : List UInt8) : Option (Nat × Nat × ByteArray) :=
  match splitL 32 s with
  | [p, q, o] => if (p = [digC (digV p)] ∧ digV p < 10) ∧ (q = [digC (digV q)] ∧ digV q < 10) ∧ codeOk (digV p) (digV q) (mkS o) = true then some (digV p, digV q, mkS o) else none
  | _ => none
theorem parseC_few {s : List UInt8} (h : (splitL 32 s).length ≠ 3) : parseC s = none := by
  unfold parseC
  split
  · next e => rw [e] at h; simp at h
  · rfl
theorem parseC_yes {s p q o : List UInt8} {k n : Nat} (h : splitL 32 s = [p, q, o]) (hk : k < 10) (hn : n < 10) (hp : p = [digC k]) (hq : q = [digC n]) (hc : codeOk k n (mkS o) = true) : parseC s = some (k, n, mkS o) := by
  unfold parseC
  rw [h]
  have h1 : digV p = k := by rw [hp]; exact digV_dig hk
  have h2 : digV q = n := by rw [hq]; exact digV_dig hn
  simp only [h1, h2]
  rw [if_pos ⟨⟨hp, hk⟩, ⟨hq, hn⟩, hc⟩]
theorem parseC_no {s p q o : List UInt8} (h : splitL 32 s = [p, q, o]) (hc : ∀ k n, k < 10 → n < 10 → p = [digC k] → q = [digC n] → codeOk k n (mkS o) = false) : parseC s = none := by
  unfold parseC
  rw [h]
  show (if _ then _ else _) = none
  rw [if_neg]
  rintro ⟨⟨h1, h2⟩, ⟨h3, h4⟩, h5⟩
  rw [hc _ _ h2 h4 h1 h3] at h5
  cases h5
end Go.Cm

/- Plain laws: a table of single digits read. No dump is imported. -/
namespace Go.Cm
open Go Go.Mx

/-- a text of one digit -/
def digP (p : List UInt8) : Bool := decide (p.length = 1) && (decide (48 ≤ (p.getD 0 0).toNat) && decide ((p.getD 0 0).toNat ≤ 57))
def digR (r : List UInt8) : Bool := (splitL 44 r).all digP
def digT (s : List UInt8) : Bool := (splitL 47 s).all digR
def rowD (r : List UInt8) : List Int := (splitL 44 r).map fun p => ((digV p : Nat) : Int)
def valT (s : List UInt8) : List (List Int) := (splitL 47 s).map rowD
theorem digP_dig {p : List UInt8} (h : digP p = true) : ∃ d, d < 10 ∧ p = [digC d] ∧ digV p = d := by
  simp only [digP, Bool.and_eq_true, decide_eq_true_eq] at h
  obtain ⟨h1, h2, h3⟩ := h
  match p, h1 with
  | [c], _ =>
    simp only [List.getD_cons_zero] at h2 h3
    have hd : c = digC (c.toNat - 48) := by
      apply UInt8.toNat_inj.1
      show c.toNat = (48 + (c.toNat - 48)) % 256
      omega
    exact ⟨c.toNat - 48, by omega, by rw [← hd], rfl⟩
theorem rowD_length (r : List UInt8) : (rowD r).length = (splitL 44 r).length := by simp [rowD]
theorem rowD_at (r : List UInt8) (j : Nat) (h : j < (splitL 44 r).length) : (rowD r).getD j 0 = ((digV ((splitL 44 r).getD j []) : Nat) : Int) := by
  simp [rowD, List.getD_eq_getElem?_getD, List.getElem?_eq_getElem h]
theorem valT_length (s : List UInt8) : (valT s).length = (splitL 47 s).length := by simp [valT]
theorem valT_at (s : List UInt8) (i : Nat) (h : i < (splitL 47 s).length) : (valT s).getD i [] = rowD ((splitL 47 s).getD i []) := by
  simp [valT, List.getD_eq_getElem?_getD, List.getElem?_eq_getElem h]
/-- the row on the way -/
def rowTo (r : List UInt8) (j : Nat) : List Int := (rowD r).take j
theorem rowTo_zero (r : List UInt8) : rowTo r 0 = [] := by simp [rowTo]
theorem rowTo_length (r : List UInt8) (j : Nat) (h : j ≤ (splitL 44 r).length) : (rowTo r j).length = j := by unfold rowTo; rw [List.length_take, rowD_length]; omega
theorem rowTo_succ (r : List UInt8) (j : Nat) (h : j < (splitL 44 r).length) : rowTo r (j + 1) = rowTo r j ++ [((digV ((splitL 44 r).getD j []) : Nat) : Int)] := by
  unfold rowTo
  have hl : j < (rowD r).length := by rw [rowD_length]; exact h
  rw [List.take_succ_eq_append_getElem hl, ← rowD_at r j h, List.getD_eq_getElem?_getD, List.getElem?_eq_getElem hl]
  rfl
theorem rowTo_all (r : List UInt8) : rowTo r (splitL 44 r).length = rowD r := by unfold rowTo; rw [List.take_of_length_le (by rw [rowD_length]; exact Nat.le_refl _)]
/-- the table on the way -/
def valTo (s : List UInt8) (i : Nat) : List (List Int) := (valT s).take i
theorem valTo_zero (s : List UInt8) : valTo s 0 = [] := by simp [valTo]
theorem valTo_length (s : List UInt8) (i : Nat) (h : i ≤ (splitL 47 s).length) : (valTo s i).length = i := by unfold valTo; rw [List.length_take, valT_length]; omega
theorem valTo_succ (s : List UInt8) (i : Nat) (h : i < (splitL 47 s).length) : valTo s (i + 1) = valTo s i ++ [rowD ((splitL 47 s).getD i [])] := by
  unfold valTo
  have hl : i < (valT s).length := by rw [valT_length]; exact h
  rw [List.take_succ_eq_append_getElem hl, ← valT_at s i h, List.getD_eq_getElem?_getD, List.getElem?_eq_getElem hl]
  rfl
theorem valTo_all (s : List UInt8) : valTo s (splitL 47 s).length = valT s := by unfold valTo; rw [List.take_of_length_le (by rw [valT_length]; exact Nat.le_refl _)]
theorem digT_row {s : List UInt8} (h : digT s = true) {i : Nat} (hi : i < (splitL 47 s).length) : digR ((splitL 47 s).getD i []) = true := by
  unfold digT at h
  rw [List.all_eq_true] at h
  rw [List.getD_eq_getElem?_getD, List.getElem?_eq_getElem hi]
  exact h _ (List.getElem_mem hi)
theorem digR_at {r : List UInt8} (h : digR r = true) {j : Nat} (hj : j < (splitL 44 r).length) : digP ((splitL 44 r).getD j []) = true := by
  unfold digR at h
  rw [List.all_eq_true] at h
  rw [List.getD_eq_getElem?_getD, List.getElem?_eq_getElem hj]
  exact h _ (List.getElem_mem hj)

/-- the twelve texts of the draws -/
def twelveT : List (List UInt8) := [[49, 44, 49, 47, 49, 44, 48], [50], [49, 44, 49, 47, 49, 44, 49], [48, 44, 49, 47, 49, 44, 48], [48, 44, 49, 44, 48, 47, 48, 44, 48, 44, 49, 47, 49, 44, 49, 44, 48], [49, 44, 49, 44, 48, 47, 48, 44, 49, 44, 49, 47, 49, 44, 48, 44, 49], [49, 44, 48, 47, 49, 44, 49], [48, 44, 49, 47, 48, 44, 48], [51], [49, 44, 50, 47, 49, 44, 48], [48], [48, 44, 50, 47, 49, 44, 48]]
theorem twelve_ok : ∀ s ∈ twelveT, digT s = true ∧ isMat (valT s) = true ∧ s.length ≤ 20 := by decide
end Go.Cm

/- The places of a graph through which a way goes that is infinite in both directions: the steps that find them. No program in sight. -/
namespace Go.Cm

/-- the arcs of the first i places -/
def arcsTo (next : List (List Nat)) (i : Nat) : List (Nat × Nat) := (List.range i).flatMap fun a => (next.getD a []).map fun k => (a, k)
def arcsIn (next : List (List Nat)) (i p : Nat) : List (Nat × Nat) := arcsTo next i ++ ((next.getD i []).take p).map fun k => (i, k)
theorem arcsIn_zero (next : List (List Nat)) (i : Nat) : arcsIn next i 0 = arcsTo next i := by simp [arcsIn]
theorem arcsIn_succ (next : List (List Nat)) (i p : Nat) (h : p < (next.getD i []).length) : arcsIn next i (p + 1) = arcsIn next i p ++ [(i, (next.getD i []).getD p 0)] := by
  unfold arcsIn
  rw [List.take_succ_eq_append_getElem h, List.map_append, ← List.append_assoc, List.getD_eq_getElem?_getD (l := next.getD i []), List.getElem?_eq_getElem h]
  rfl
theorem arcsIn_all (next : List (List Nat)) (i : Nat) : arcsIn next i (next.getD i []).length = arcsTo next (i + 1) := by
  unfold arcsIn arcsTo
  rw [List.take_length, List.range_succ, List.flatMap_append]
  simp

def onB (l : List Bool) (p : Nat × Nat) : Bool := l.getD p.1 false && l.getD p.2 false
/-- from which places an arc goes on, among these arcs -/
def fromL (n : Nat) (l : List Bool) (P : List (Nat × Nat)) : List Bool := (List.range n).map fun i => P.any fun p => p.1 == i && onB l p
/-- to which -/
def toL (n : Nat) (l : List Bool) (P : List (Nat × Nat)) : List Bool := (List.range n).map fun i => P.any fun p => p.2 == i && onB l p
theorem fromL_nil (n : Nat) (l : List Bool) : fromL n l [] = List.replicate n false := by
  apply List.ext_getElem
  · simp [fromL]
  · intro i h1 h2; simp [fromL]
theorem toL_nil (n : Nat) (l : List Bool) : toL n l [] = List.replicate n false := by
  apply List.ext_getElem
  · simp [toL]
  · intro i h1 h2; simp [toL]
theorem fromL_length (n : Nat) (l : List Bool) (P : List (Nat × Nat)) : (fromL n l P).length = n := by simp [fromL]
theorem toL_length (n : Nat) (l : List Bool) (P : List (Nat × Nat)) : (toL n l P).length = n := by simp [toL]
theorem fromL_on {n : Nat} {l : List Bool} {P : List (Nat × Nat)} {p : Nat × Nat} (h : onB l p = true) : fromL n l (P ++ [p]) = (fromL n l P).set p.1 true := by
  apply List.ext_getElem
  · simp [fromL]
  · intro i h1 h2
    rw [List.getElem_set]
    simp only [fromL, List.getElem_map, List.getElem_range, List.any_append, List.any_cons, List.any_nil, Bool.or_false, h, Bool.and_true]
    by_cases e : p.1 = i
    · simp [e]
    · simp [e]
theorem toL_on {n : Nat} {l : List Bool} {P : List (Nat × Nat)} {p : Nat × Nat} (h : onB l p = true) : toL n l (P ++ [p]) = (toL n l P).set p.2 true := by
  apply List.ext_getElem
  · simp [toL]
  · intro i h1 h2
    rw [List.getElem_set]
    simp only [toL, List.getElem_map, List.getElem_range, List.any_append, List.any_cons, List.any_nil, Bool.or_false, h, Bool.and_true]
    by_cases e : p.2 = i
    · simp [e]
    · simp [e]
theorem fromL_off {n : Nat} {l : List Bool} {P : List (Nat × Nat)} {p : Nat × Nat} (h : onB l p = false) : fromL n l (P ++ [p]) = fromL n l P := by
  unfold fromL
  apply List.map_congr_left
  intro i _
  simp [h]
theorem toL_off {n : Nat} {l : List Bool} {P : List (Nat × Nat)} {p : Nat × Nat} (h : onB l p = false) : toL n l (P ++ [p]) = toL n l P := by
  unfold toL
  apply List.map_congr_left
  intro i _
  simp [h]

/-- stays a place? -/
def stayB (next : List (List Nat)) (l : List Bool) (i : Nat) : Bool := (fromL next.length l (arcsTo next next.length)).getD i false && (toL next.length l (arcsTo next next.length)).getD i false
/-- one step, done for the first i places -/
def liveMix (next : List (List Nat)) (l : List Bool) (i : Nat) : List Bool := (List.range next.length).map fun j => l.getD j false && (stayB next l j || !decide (j < i))
def liveStep (next : List (List Nat)) (l : List Bool) : List Bool := liveMix next l next.length
theorem liveMix_length (next : List (List Nat)) (l : List Bool) (i : Nat) : (liveMix next l i).length = next.length := by simp [liveMix]
theorem liveMix_zero (next : List (List Nat)) (l : List Bool) (h : l.length = next.length) : liveMix next l 0 = l := by
  apply List.ext_getElem
  · simp [liveMix, h]
  · intro i h1 h2
    simp [liveMix, List.getD_eq_getElem?_getD, List.getElem?_eq_getElem h2]
theorem liveMix_at (next : List (List Nat)) (l : List Bool) (i : Nat) (h : i < next.length) : (liveMix next l i).getD i false = l.getD i false := by
  rw [List.getD_eq_getElem?_getD, List.getElem?_eq_getElem (by rw [liveMix_length]; exact h)]
  simp [liveMix]
theorem liveMix_succ (next : List (List Nat)) (l : List Bool) (i : Nat) (_ : i < next.length) : liveMix next l (i + 1) = (liveMix next l i).set i (l.getD i false && stayB next l i) := by
  apply List.ext_getElem
  · simp [liveMix]
  · intro j h1 h2
    rw [List.getElem_set]
    simp only [liveMix, List.getElem_map, List.getElem_range]
    by_cases e : i = j
    · subst e; simp
    · have : decide (j < i + 1) = decide (j < i) := by rw [decide_eq_decide]; omega
      simp [e, this]
theorem liveMix_keep (next : List (List Nat)) (l : List Bool) (i : Nat) (h : i < next.length) (hs : (l.getD i false && !stayB next l i) = false) : liveMix next l (i + 1) = liveMix next l i := by
  rw [liveMix_succ next l i h]
  have e : (l.getD i false && stayB next l i) = (liveMix next l i).getD i false := by
    rw [liveMix_at next l i h]
    cases h1 : l.getD i false <;> cases h2 : stayB next l i <;> simp_all
  rw [e]
  apply List.ext_getElem
  · simp
  · intro j h1 h2
    rw [List.getElem_set]
    by_cases e : i = j
    · subst e
      simp [List.getD_eq_getElem?_getD, List.getElem?_eq_getElem h2]
    · simp [e]

/-- has one of the first i places gone? -/
def goneL (next : List (List Nat)) (l : List Bool) (i : Nat) : Bool := (List.range i).any fun j => l.getD j false && !stayB next l j
theorem goneL_succ (next : List (List Nat)) (l : List Bool) (i : Nat) : goneL next l (i + 1) = (goneL next l i || (l.getD i false && !stayB next l i)) := by simp [goneL, List.range_succ]
theorem live_still {next : List (List Nat)} {l : List Bool} (h : l.length = next.length) (hg : goneL next l next.length = false) : liveStep next l = l := by
  apply List.ext_getElem
  · simp [liveStep, liveMix, h]
  · intro i h1 h2
    simp only [liveStep, liveMix, List.getElem_map, List.getElem_range]
    have hi : i < next.length := by omega
    have hh : (l.getD i false && !stayB next l i) = false := by
      unfold goneL at hg
      rw [List.any_eq_false] at hg
      simpa using hg i (by simpa using hi)
    have e : l.getD i false = l[i] := by simp [List.getD_eq_getElem?_getD, List.getElem?_eq_getElem h2]
    rw [e] at hh ⊢
    cases h1 : l[i] <;> cases h2 : stayB next l i <;> simp_all
/-- how many are left -/
def cntT (l : List Bool) : Nat := (l.map fun b => if b = true then 1 else 0).sum
theorem cntT_le (l : List Bool) : cntT l ≤ l.length := by
  unfold cntT
  induction l with
  | nil => simp
  | cons a l ih => cases a <;> simp <;> omega
theorem cntT_mono : ∀ {l l' : List Bool}, l.length = l'.length → (∀ j, l'.getD j false = true → l.getD j false = true) → cntT l' ≤ cntT l
  | [], [], _, _ => Nat.le_refl _
  | [], _ :: _, h, _ => by simp at h
  | _ :: _, [], h, _ => by simp at h
  | b :: l, b' :: l', hl, hle => by
    have := cntT_mono (l := l) (l' := l') (by simpa using hl) (fun j hj => by simpa using hle (j + 1) (by simpa using hj))
    have h0 : b' = true → b = true := by simpa using hle 0
    simp only [cntT, List.map_cons, List.sum_cons] at this ⊢
    cases b <;> cases b' <;> simp_all <;> omega
theorem cntT_lt : ∀ {l l' : List Bool} {i : Nat}, l.length = l'.length → (∀ j, l'.getD j false = true → l.getD j false = true) → l.getD i false = true → l'.getD i false = false → cntT l' < cntT l
  | [], _, _, _, _, h, _ => by simp at h
  | a :: l, [], _, h, _, _, _ => by simp at h
  | a :: l, a' :: l', i, hl, hle, h1, h2 => by
    have hl' : l.length = l'.length := by simpa using hl
    have hle' : ∀ j, l'.getD j false = true → l.getD j false = true := fun j hj => by simpa using hle (j + 1) (by simpa using hj)
    have h0 : a' = true → a = true := by simpa using hle 0
    have hc := cntT_mono hl' hle'
    cases i with
    | zero =>
      have e1 : a = true := by simpa using h1
      have e2 : a' = false := by simpa using h2
      subst e1 e2
      simp only [cntT, List.map_cons, List.sum_cons] at hc ⊢
      simp
      omega
    | succ i =>
      have := cntT_lt hl' hle' (by simpa using h1) (by simpa using h2)
      simp only [cntT, List.map_cons, List.sum_cons] at this ⊢
      cases a <;> cases a' <;> simp_all <;> omega
theorem live_less {next : List (List Nat)} {l : List Bool} (h : l.length = next.length) (hg : goneL next l next.length = true) : cntT (liveStep next l) < cntT l := by
  unfold goneL at hg
  rw [List.any_eq_true] at hg
  obtain ⟨i, hi, hh⟩ := hg
  have hi' : i < next.length := by simpa using hi
  simp only [Bool.and_eq_true, Bool.not_eq_true'] at hh
  have hget : ∀ j, (liveStep next l).getD j false = (l.getD j false && (stayB next l j && decide (j < next.length))) := by
    intro j
    by_cases hj : j < next.length
    · rw [List.getD_eq_getElem?_getD, List.getElem?_eq_getElem (by simpa [liveStep, liveMix] using hj)]
      simp [liveStep, liveMix, hj]
    · rw [List.getD_eq_getElem?_getD, List.getElem?_eq_none (by simp [liveStep, liveMix]; omega)]
      simp [hj]
  refine cntT_lt (i := i) (by simp [liveStep, liveMix, h]) (fun j hj => ?_) hh.1 ?_
  · rw [hget] at hj
    simp only [Bool.and_eq_true] at hj
    exact hj.1
  · rw [hget, hh.2]; simp

/-- so many steps -/
def liveN (next : List (List Nat)) : Nat → List Bool
  | 0 => List.replicate next.length true
  | k + 1 => liveStep next (liveN next k)
theorem liveN_length (next : List (List Nat)) : ∀ k, (liveN next k).length = next.length
  | 0 => by simp [liveN]
  | k + 1 => by simp [liveN, liveStep, liveMix]
theorem liveN_still {next : List (List Nat)} {k : Nat} (h : liveStep next (liveN next k) = liveN next k) : ∀ j, liveN next (k + j) = liveN next k
  | 0 => rfl
  | j + 1 => by rw [← Nat.add_assoc, liveN, liveN_still h j, h]
/-- the lively places -/
def livelyL (next : List (List Nat)) : List Bool := liveN next next.length
theorem livelyL_of {next : List (List Nat)} {k : Nat} (hk : cntT (liveN next k) + k ≤ next.length) (hg : goneL next (liveN next k) next.length = false) : liveN next k = livelyL next := by
  have := liveN_still (live_still (liveN_length next k) hg) (next.length - k)
  rw [show k + (next.length - k) = next.length by omega] at this
  exact this.symm
end Go.Cm

/- Shifts told by forbidden words: plain laws. No program in sight. -/
namespace Go.Cm

/-- one word is a part of another one -/
def occ (w f : List UInt8) : Bool := Go.Lib.contains w f
theorem occAt_iff (s f : List UInt8) (i : Nat) : Go.Lib.occAt s f i = true ↔ f <+: s.drop i := by
  unfold Go.Lib.occAt
  exact List.isPrefixOf_iff_prefix
theorem occ_iff (s f : List UInt8) : occ s f = true ↔ f <:+: s := by
  unfold occ Go.Lib.contains
  rw [decide_eq_true_iff]
  constructor
  · intro h
    rcases Go.Lib.index_spec s f with ⟨h1, _⟩ | ⟨i, _, _, h3, _⟩
    · omega
    · rw [occAt_iff] at h3
      exact h3.isInfix.trans (List.drop_suffix i s).isInfix
  · rintro ⟨a, b, rfl⟩
    rcases Go.Lib.index_spec (a ++ f ++ b) f with ⟨_, h2⟩ | ⟨i, h1, _⟩
    · have h3 := h2 a.length (by simp)
      have h4 : Go.Lib.occAt (a ++ f ++ b) f a.length = true := by
        rw [occAt_iff, List.append_assoc, List.drop_left]
        exact List.prefix_append f b
      rw [h3] at h4
      cases h4
    · omega
theorem occ_trans {a b c : List UInt8} (h1 : occ a b = true) (h2 : occ b c = true) : occ a c = true := by
  rw [occ_iff] at h1 h2 ⊢
  exact h2.trans h1
/-- at a place -/
def atB (s f : List UInt8) (i : Nat) : Bool := (s.drop i).take f.length == f
theorem occ_of_at {s f : List UInt8} {i : Nat} (h : atB s f i = true) : occ s f = true := by
  rw [occ_iff]
  have e : (s.drop i).take f.length = f := by simpa [atB] using h
  rw [← e]
  exact (List.take_prefix _ _).isInfix.trans (List.drop_suffix i s).isInfix
theorem occ_none {s f : List UInt8} (h : ∀ i, i + f.length ≤ s.length → atB s f i = false) : occ s f = false := by
  rw [Bool.eq_false_iff]
  intro ho
  rw [occ_iff] at ho
  obtain ⟨a, b, rfl⟩ := ho
  have h1 := h a.length (by simp)
  have h2 : atB (a ++ f ++ b) f a.length = true := by
    unfold atB
    rw [List.append_assoc, List.drop_left, List.take_left]
    simp
  rw [h1] at h2
  cases h2

/-- no forbidden word is a part -/
def avoidL (F : List (List UInt8)) (w : List UInt8) : Bool := F.all fun f => !occ w f
theorem avoidL_bad {F : List (List UInt8)} {w f : List UInt8} (hf : f ∈ F) (h : occ w f = true) : avoidL F w = false := by
  unfold avoidL
  rw [List.all_eq_false]
  exact ⟨f, hf, by rw [h]; simp⟩
theorem avoidL_part {F : List (List UInt8)} {u w : List UInt8} (h : avoidL F u = true) (ho : occ u w = true) : avoidL F w = true := by
  unfold avoidL at h ⊢
  rw [List.all_eq_true] at h ⊢
  intro f hf
  have := h f hf
  cases hw : occ w f with
  | false => rfl
  | true => rw [occ_trans ho hw] at this; exact this

/-- a pair of letters with another one behind it -/
def adjL (F : List (List UInt8)) (u v : List UInt8) : Bool := (u.getD 1 0 == v.getD 0 0) && avoidL F (u ++ v.drop 1)
/-- the avoiding words of a length -/
def avoidsN (K : Nat) (F : List (List UInt8)) (n : Nat) : List (List UInt8) := (wordsL K n).filter (avoidL F)
/-- the arcs between some pairs -/
def nextL (F : List (List UInt8)) (ps : List (List UInt8)) : List (List Nat) := ps.map fun u => (List.range ps.length).filter fun k => adjL F u (ps.getD k [])
theorem nextL_length (F ps : List (List UInt8)) : (nextL F ps).length = ps.length := by simp [nextL]
theorem nextL_at (F ps : List (List UInt8)) (a : Nat) (h : a < ps.length) : (nextL F ps).getD a [] = (List.range ps.length).filter fun k => adjL F (ps.getD a []) (ps.getD k []) := by
  unfold nextL
  rw [List.getD_eq_getElem?_getD, List.getElem?_map, List.getElem?_eq_getElem h]
  simp [List.getD_eq_getElem?_getD, List.getElem?_eq_getElem h]

/-- those of the first k that are marked -/
def keepTo (ps : List (List UInt8)) (l : List Bool) (k : Nat) : List (List UInt8) := ((List.range k).filter fun j => l.getD j false).map fun j => ps.getD j []
def keepL (ps : List (List UInt8)) (l : List Bool) : List (List UInt8) := keepTo ps l ps.length
theorem keepTo_zero (ps : List (List UInt8)) (l : List Bool) : keepTo ps l 0 = [] := rfl
theorem keepTo_yes {ps : List (List UInt8)} {l : List Bool} {k : Nat} (h : l.getD k false = true) : keepTo ps l (k + 1) = keepTo ps l k ++ [ps.getD k []] := by
  unfold keepTo
  rw [List.range_succ, List.filter_append, List.map_append, List.filter_cons_of_pos (by exact h)]
  rfl
theorem keepTo_no {ps : List (List UInt8)} {l : List Bool} {k : Nat} (h : l.getD k false = false) : keepTo ps l (k + 1) = keepTo ps l k := by
  unfold keepTo
  rw [List.range_succ, List.filter_append, List.map_append, List.filter_cons_of_neg (by rw [h]; simp)]
  exact List.append_nil _
theorem keepTo_length_le (ps : List (List UInt8)) (l : List Bool) (k : Nat) : (keepTo ps l k).length ≤ k := by
  unfold keepTo
  rw [List.length_map]
  have := List.length_filter_le (fun j => l.getD j false) (List.range k)
  rw [List.length_range] at this
  exact this
theorem keepTo_mem {ps : List (List UInt8)} {l : List Bool} {u : List UInt8} (h : u ∈ keepL ps l) : u ∈ ps := by
  unfold keepL keepTo at h
  obtain ⟨j, hj, rfl⟩ := List.mem_map.1 h
  have h1 := List.mem_range.1 (List.mem_filter.1 hj).1
  rw [List.getD_eq_getElem?_getD, List.getElem?_eq_getElem h1]
  exact List.getElem_mem h1
theorem keepL_any (ps : List (List UInt8)) (l : List Bool) (g : List UInt8 → Bool) : (keepL ps l).any g = true ↔ ∃ k, k < ps.length ∧ l.getD k false = true ∧ g (ps.getD k []) = true := by
  unfold keepL keepTo
  rw [List.any_eq_true]
  constructor
  · rintro ⟨x, hx, hg⟩
    obtain ⟨k, hk, rfl⟩ := List.mem_map.1 hx
    exact ⟨k, List.mem_range.1 (List.mem_filter.1 hk).1, (List.mem_filter.1 hk).2, hg⟩
  · rintro ⟨k, h1, h2, h3⟩
    exact ⟨_, List.mem_map.2 ⟨k, List.mem_filter.2 ⟨List.mem_range.2 h1, h2⟩, rfl⟩, h3⟩
/-- a pair has one behind it and one ahead of it in a list -/
def goesB (F out : List (List UInt8)) (u : List UInt8) : Bool := (out.any fun v => adjL F u v) && (out.any fun v => adjL F v u)

theorem liveStep_at (next : List (List Nat)) (l : List Bool) (k : Nat) (hk : k < next.length) : (liveStep next l).getD k false = (l.getD k false && stayB next l k) := by
  unfold liveStep liveMix
  rw [List.getD_eq_getElem?_getD, List.getElem?_map, List.getElem?_range hk]
  simp [hk]
theorem arcs_any (next : List (List Nat)) (n : Nat) (g : Nat × Nat → Bool) : (arcsTo next n).any g = true ↔ ∃ a j, a < n ∧ j ∈ next.getD a [] ∧ g (a, j) = true := by
  unfold arcsTo
  rw [List.any_eq_true]
  constructor
  · rintro ⟨p, hp, hg⟩
    obtain ⟨a, ha, hp⟩ := List.mem_flatMap.1 hp
    obtain ⟨j, hj, rfl⟩ := List.mem_map.1 hp
    exact ⟨a, j, List.mem_range.1 ha, hj, hg⟩
  · rintro ⟨a, j, h1, h2, h3⟩
    exact ⟨(a, j), List.mem_flatMap.2 ⟨a, List.mem_range.2 h1, List.mem_map.2 ⟨j, h2, rfl⟩⟩, h3⟩
theorem fromL_at (n : Nat) (l : List Bool) (P : List (Nat × Nat)) (k : Nat) (hk : k < n) : (fromL n l P).getD k false = P.any fun p => p.1 == k && onB l p := by
  unfold fromL
  rw [List.getD_eq_getElem?_getD, List.getElem?_map, List.getElem?_range hk]
  rfl
theorem toL_at (n : Nat) (l : List Bool) (P : List (Nat × Nat)) (k : Nat) (hk : k < n) : (toL n l P).getD k false = P.any fun p => p.2 == k && onB l p := by
  unfold toL
  rw [List.getD_eq_getElem?_getD, List.getElem?_map, List.getElem?_range hk]
  rfl

theorem stay_goes (F ps : List (List UInt8)) (l : List Bool) (k : Nat) (hk : k < ps.length) (hl : l.getD k false = true) : stayB (nextL F ps) l k = goesB F (keepL ps l) (ps.getD k []) := by
  unfold stayB goesB
  rw [nextL_length, fromL_at _ _ _ _ hk, toL_at _ _ _ _ hk]
  congr 1
  · rw [Bool.eq_iff_iff, arcs_any, keepL_any]
    constructor
    · rintro ⟨a, j, ha, hj, hg⟩
      rw [nextL_at F ps a ha] at hj
      have h1 := List.mem_range.1 (List.mem_filter.1 hj).1
      have h2 := (List.mem_filter.1 hj).2
      simp only [onB, Bool.and_eq_true, beq_iff_eq] at hg
      obtain ⟨rfl, _, h3⟩ := hg
      exact ⟨j, h1, h3, h2⟩
    · rintro ⟨j, h1, h2, h3⟩
      refine ⟨k, j, hk, ?_, ?_⟩
      · rw [nextL_at F ps k hk]
        exact List.mem_filter.2 ⟨List.mem_range.2 h1, h3⟩
      · simp only [onB, Bool.and_eq_true, beq_iff_eq]
        exact ⟨trivial, hl, h2⟩
  · rw [Bool.eq_iff_iff, arcs_any, keepL_any]
    constructor
    · rintro ⟨a, j, ha, hj, hg⟩
      rw [nextL_at F ps a ha] at hj
      have h2 := (List.mem_filter.1 hj).2
      simp only [onB, Bool.and_eq_true, beq_iff_eq] at hg
      obtain ⟨rfl, h3, _⟩ := hg
      exact ⟨a, ha, h3, h2⟩
    · rintro ⟨j, h1, h2, h3⟩
      refine ⟨j, k, h1, ?_, ?_⟩
      · rw [nextL_at F ps j h1]
        exact List.mem_filter.2 ⟨List.mem_range.2 hk, h3⟩
      · simp only [onB, Bool.and_eq_true, beq_iff_eq]
        exact ⟨trivial, h2, hl⟩

/-- one round of the reference's search -/
theorem keep_step (F ps : List (List UInt8)) (l : List Bool) : (keepL ps l).filter (goesB F (keepL ps l)) = keepL ps (liveStep (nextL F ps) l) := by
  have e : ∀ g : List UInt8 → Bool, (keepL ps l).filter g = ((List.range ps.length).filter fun j => l.getD j false && g (ps.getD j [])).map fun j => ps.getD j [] := by
    intro g
    unfold keepL keepTo
    rw [List.filter_map, List.filter_filter]
    congr 1
    apply List.filter_congr
    intro j _
    simp [Bool.and_comm]
  rw [e]
  unfold keepL keepTo
  congr 1
  apply List.filter_congr
  intro j hj
  have hj' := List.mem_range.1 hj
  rw [liveStep_at _ _ _ (by rw [nextL_length]; exact hj')]
  cases hl : l.getD j false with
  | false => rfl
  | true =>
    rw [stay_goes F ps l j hj' hl]
    rfl

theorem keepTo_cnt (ps : List (List UInt8)) (l : List Bool) : ∀ k, k ≤ l.length → (keepTo ps l k).length = cntT (l.take k)
  | 0, _ => by simp [keepTo, cntT]
  | k + 1, h => by
    have ih := keepTo_cnt ps l k (by omega)
    have ht : l.take (k + 1) = l.take k ++ [l.getD k false] := by
      rw [List.take_succ_eq_append_getElem (by omega), List.getD_eq_getElem?_getD, List.getElem?_eq_getElem (by omega)]
      rfl
    rw [ht]
    cases hl : l.getD k false with
    | false =>
      rw [keepTo_no hl, ih]
      simp [cntT]
    | true =>
      rw [keepTo_yes hl, List.length_append, ih]
      simp [cntT]
theorem keepL_cnt {ps : List (List UInt8)} {l : List Bool} (h : l.length = ps.length) : (keepL ps l).length = cntT l := by
  unfold keepL
  rw [← h, keepTo_cnt ps l l.length (Nat.le_refl _), List.take_length]
theorem liveN_keep_all (ps : List (List UInt8)) : keepL ps (List.replicate ps.length true) = ps := by
  unfold keepL keepTo
  rw [List.filter_eq_self.2 (fun j hj => by
    have := List.mem_range.1 hj
    simp [List.getD_eq_getElem?_getD, this])]
  apply List.ext_getElem
  · simp
  · intro i h1 h2
    simp [List.getD_eq_getElem?_getD, h2]

/-- the pairs that go on in both directions -/
def statesOf (F ps : List (List UInt8)) : List (List UInt8) := keepL ps (livelyL (nextL F ps))
def statesL (K : Nat) (F : List (List UInt8)) : List (List UInt8) := statesOf F (avoidsN K F 2)
theorem statesL_avoid {K : Nat} {F : List (List UInt8)} {u : List UInt8} (h : u ∈ statesL K F) : avoidL F u = true := (List.mem_filter.1 (keepTo_mem h)).2
theorem statesL_word {K : Nat} {F : List (List UInt8)} {u : List UInt8} (h : u ∈ statesL K F) : u ∈ wordsL K 2 := (List.mem_filter.1 (keepTo_mem h)).1
/-- the state of the reference's search -/
def PairSt (F ps : List (List UInt8)) (out : List (List UInt8)) : Prop := ∃ k, out = keepL ps (liveN (nextL F ps) k) ∧ cntT (liveN (nextL F ps) k) + k ≤ ps.length
theorem PairSt.start (F ps : List (List UInt8)) : PairSt F ps ps := by
  refine ⟨0, ?_, ?_⟩
  · unfold liveN
    rw [nextL_length]
    exact (liveN_keep_all ps).symm
  · have := cntT_le (liveN (nextL F ps) 0)
    rw [liveN_length, nextL_length] at this
    omega
theorem PairSt.step {F ps out : List (List UInt8)} (h : PairSt F ps out) :
    (out.filter (goesB F out)).length ≤ out.length ∧
    ((out.filter (goesB F out)).length = out.length → out = statesOf F ps) ∧
    (¬ (out.filter (goesB F out)).length = out.length → PairSt F ps (out.filter (goesB F out))) := by
  obtain ⟨k, rfl, hk⟩ := h
  have hlen := liveN_length (nextL F ps) k
  have hlen' : (liveN (nextL F ps) k).length = ps.length := by rw [hlen, nextL_length]
  have hs : (liveStep (nextL F ps) (liveN (nextL F ps) k)).length = ps.length := by
    have := liveN_length (nextL F ps) (k + 1)
    rw [nextL_length] at this
    exact this
  refine ⟨List.length_filter_le _ _, fun he => ?_, fun hne => ?_⟩
  · rw [keep_step, keepL_cnt hs, keepL_cnt hlen'] at he
    have hg : goneL (nextL F ps) (liveN (nextL F ps) k) (nextL F ps).length = false := by
      rw [Bool.eq_false_iff]
      intro hg
      have := live_less hlen hg
      omega
    rw [livelyL_of (k := k) (by rw [nextL_length]; exact hk) hg]
    rfl
  · refine ⟨k + 1, by rw [keep_step]; rfl, ?_⟩
    have hg : goneL (nextL F ps) (liveN (nextL F ps) k) (nextL F ps).length = true := by
      cases hg : goneL (nextL F ps) (liveN (nextL F ps) k) (nextL F ps).length with
      | true => rfl
      | false =>
        exfalso
        apply hne
        rw [keep_step, live_still hlen hg]
    have := live_less hlen hg
    show cntT (liveStep _ _) + (k + 1) ≤ _
    omega

/-- is a word in the language, for the states of a shift -/
def hasL (F st : List (List UInt8)) (w : List UInt8) : Bool :=
  if w.length < 2 then st.any fun u => occ u w
  else avoidL F w && ((st.any fun u => u == w.take 2) && (st.any fun u => u == w.drop (w.length - 2)))
/-- .. by the reference -/
def hasS (F st : List (List UInt8)) (w : List UInt8) : Bool :=
  if st.length = 0 ∨ avoidL F w = false then false
  else if w.length < 2 then st.any fun u => occ u w
  else (st.any fun u => u == w.take 2) && (st.any fun u => u == w.drop (w.length - 2))
theorem hasS_eq {F st : List (List UInt8)} (h : ∀ u ∈ st, avoidL F u = true) (w : List UInt8) : hasS F st w = hasL F st w := by
  unfold hasS hasL
  by_cases h0 : st.length = 0
  · have : st = [] := List.eq_nil_of_length_eq_zero h0
    subst this
    simp
  · by_cases ha : avoidL F w = false
    · rw [if_pos (Or.inr ha)]
      by_cases hw : w.length < 2
      · rw [if_pos hw]
        symm
        rw [List.any_eq_false]
        intro u hu ho
        rw [avoidL_part (h u hu) ho] at ha
        cases ha
      · rw [if_neg hw, ha]; rfl
    · rw [if_neg (by simp [h0, ha])]
      by_cases hw : w.length < 2
      · rw [if_pos hw, if_pos hw]
      · rw [if_neg hw, if_neg hw]
        have : avoidL F w = true := by simpa using ha
        rw [this, Bool.true_and]
/-- the words of a length in the language -/
def languageL (K : Nat) (F : List (List UInt8)) (n : Nat) : List (List UInt8) := (wordsL K n).filter (hasL F (statesL K F))

/-! ### valid shifts -/
def lessW (a b : List UInt8) : Bool := Go.Op.bytesLess a b
def shOkAt (L : Int) (F : List (List UInt8)) (k : Nat) : Bool := (areLet L (F.getD k []) && (decide (1 ≤ (F.getD k []).length) && decide ((F.getD k []).length ≤ 3))) && (decide (k = 0) || lessW (F.getD (k - 1) []) (F.getD k []))
def shiftOk (L : Int) (F : List (List UInt8)) : Bool := ((decide (1 ≤ L) && decide (L ≤ 3)) && decide (F.length ≤ 8)) && (List.range F.length).all (shOkAt L F)
theorem shiftOk_head {L : Int} {F : List (List UInt8)} (h : ¬ (1 ≤ L ∧ L ≤ 3) ∨ ¬ F.length ≤ 8) : shiftOk L F = false := by
  unfold shiftOk
  rcases h with h | h
  · have : (decide (1 ≤ L) && decide (L ≤ 3)) = false := by simp; omega
    rw [this]; rfl
  · rw [decide_eq_false h]; simp
theorem shiftOk_bad {L : Int} {F : List (List UInt8)} {k : Nat} (hk : k < F.length) (h : shOkAt L F k = false) : shiftOk L F = false := by
  unfold shiftOk
  rw [show (List.range F.length).all (shOkAt L F) = false by rw [List.all_eq_false]; exact ⟨k, List.mem_range.2 hk, by rw [h]; simp⟩, Bool.and_false]
theorem shiftOk_all {L : Int} {F : List (List UInt8)} (h : ∀ j, j < F.length → shOkAt L F j = true) : shiftOk L F = ((decide (1 ≤ L) && decide (L ≤ 3)) && decide (F.length ≤ 8)) := by
  unfold shiftOk
  rw [show (List.range F.length).all (shOkAt L F) = true by rw [List.all_eq_true]; intro j hj; exact h j (List.mem_range.1 hj), Bool.and_true]
/-- what a valid shift is -/
structure ShFit (K : Nat) (F : List (List UInt8)) : Prop where
  k1 : 1 ≤ K
  k3 : K ≤ 3
  n8 : F.length ≤ 8
  word : ∀ f ∈ F, areLet K f = true ∧ 1 ≤ f.length ∧ f.length ≤ 3
  asc : ∀ j, j + 1 < F.length → lessW (F.getD j []) (F.getD (j + 1) []) = true
theorem ShFit.of {L : Int} {F : List (List UInt8)} (h : shiftOk L F = true) : ∃ K : Nat, L = K ∧ ShFit K F := by
  unfold shiftOk at h
  simp only [Bool.and_eq_true, decide_eq_true_eq, List.all_eq_true] at h
  obtain ⟨⟨⟨h1, h2⟩, h3⟩, h4⟩ := h
  refine ⟨L.toNat, by omega, ⟨by omega, by omega, h3, fun f hf => ?_, fun j hj => ?_⟩⟩
  · obtain ⟨i, hi, rfl⟩ := List.mem_iff_getElem.1 hf
    have := h4 i (List.mem_range.2 hi)
    unfold shOkAt at this
    simp only [Bool.and_eq_true, decide_eq_true_eq, List.getD_eq_getElem?_getD, List.getElem?_eq_getElem hi, Option.getD_some] at this
    rw [show ((L.toNat : Nat) : Int) = L by omega]
    exact ⟨this.1.1, this.1.2.1, this.1.2.2⟩
  · have := h4 (j + 1) (List.mem_range.2 hj)
    unfold shOkAt at this
    simp only [Bool.and_eq_true, Bool.or_eq_true, decide_eq_true_eq] at this
    have h5 := this.2
    rcases h5 with h5 | h5
    · omega
    · simpa using h5
theorem ShFit.ok {K : Nat} {F : List (List UInt8)} (h : ShFit K F) : shiftOk K F = true := by
  have := h.k1
  have := h.k3
  rw [shiftOk_all fun j hj => ?_]
  · simp only [Bool.and_eq_true, decide_eq_true_eq]
    exact ⟨⟨by omega, by omega⟩, h.n8⟩
  · unfold shOkAt
    have hm : F.getD j [] ∈ F := by
      rw [List.getD_eq_getElem?_getD, List.getElem?_eq_getElem hj]
      exact List.getElem_mem hj
    obtain ⟨h1, h2, h3⟩ := h.word _ hm
    simp only [Bool.and_eq_true, Bool.or_eq_true, decide_eq_true_eq]
    refine ⟨⟨h1, h2, h3⟩, ?_⟩
    by_cases hj0 : j = 0
    · exact .inl hj0
    · right
      have := h.asc (j - 1) (by omega)
      rwa [show j - 1 + 1 = j by omega] at this
end Go.Cm


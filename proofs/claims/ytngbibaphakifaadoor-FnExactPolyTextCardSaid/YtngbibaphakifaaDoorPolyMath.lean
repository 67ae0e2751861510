/- Plain laws on polynomials: values, products, the cut at the end. No dump is imported. -/
import Derived.Test.YtngbibaphakifaaDoorMatMath
namespace Go.Mx
open Go

/-- at most so many numbers within a million -/
def numOk (x : Int) : Bool := decide (-1000000 ≤ x ∧ x ≤ 1000000)
def numsOk (most : Nat) (p : List Int) : Bool := decide (p.length ≤ most) && p.all numOk
theorem numsOk_yes {most : Nat} {p : List Int} (h : numsOk most p = true) : p.length ≤ most ∧ ∀ j, -1000000 ≤ p.getD j 0 ∧ p.getD j 0 ≤ 1000000 := by
  simp only [numsOk, Bool.and_eq_true, decide_eq_true_eq] at h
  refine ⟨h.1, fun j => ?_⟩
  rcases getD_mem_or p j 0 with hj | hj
  · have := List.all_eq_true.1 h.2 _ hj
    simpa [numOk] using this
  · rw [hj]; omega
theorem numsOk_long {most : Nat} {p : List Int} (h : ¬ p.length ≤ most) : numsOk most p = false := by unfold numsOk; rw [decide_eq_false h]; rfl
theorem numsOk_bad {most : Nat} {p : List Int} {k : Nat} (hk : k < p.length) (h : numOk (p.getD k 0) = false) : numsOk most p = false := by
  unfold numsOk; rw [all_bad (p := numOk) 0 hk h, Bool.and_false]
theorem numsOk_all {most : Nat} {p : List Int} (h : p.length ≤ most) (h2 : (p.take p.length).all numOk = true) : numsOk most p = true := by
  unfold numsOk; rw [decide_eq_true h, all_done h2]; rfl

/-! ### values -/
def polyV (x : Int) : List Int → Int
  | [] => 0
  | c :: p => polyV x p * x + c
def polyB : Nat → Int
  | 0 => 0
  | n + 1 => polyB n * 1000 + 1000000
theorem polyV_bd {x : Int} (hx : -1000 ≤ x ∧ x ≤ 1000) : ∀ {p : List Int}, (∀ j, -1000000 ≤ p.getD j 0 ∧ p.getD j 0 ≤ 1000000) → -(polyB p.length) ≤ polyV x p ∧ polyV x p ≤ polyB p.length
  | [], _ => by simp [polyV, polyB]
  | c :: p, h => by
    have ih := polyV_bd hx (p := p) (fun j => by simpa using h (j + 1))
    have h0 := h 0
    simp only [List.getD_cons_zero] at h0
    have := mul_bd ih.1 ih.2 hx.1 hx.2
    simp only [polyV, polyB, List.length_cons]
    omega
theorem polyB_5 {n : Nat} (h : n ≤ 5) : polyB n ≤ 1001001001001000000 := by
  match n, h with
  | 0, _ => decide
  | 1, _ => decide
  | 2, _ => decide
  | 3, _ => decide
  | 4, _ => decide
  | 5, _ => decide
theorem polyB_le4 {n : Nat} (h : n ≤ 4) : polyB n ≤ 1001001001000000 := by
  match n, h with
  | 0, _ => decide
  | 1, _ => decide
  | 2, _ => decide
  | 3, _ => decide
  | 4, _ => decide
theorem drop_getD (p : List Int) (k : Nat) (h : k < p.length) : p.drop k = p.getD k 0 :: p.drop (k + 1) := by
  rw [List.drop_eq_getElem_cons h]
  simp [List.getD_eq_getElem?_getD, List.getElem?_eq_getElem h]
theorem getD_drop (p : List Int) (k j : Nat) : (p.drop k).getD j 0 = p.getD (k + j) 0 := by simp [List.getD_eq_getElem?_getD]
/-- what the loop has when the places from k on are done -/
theorem polyV_step (x : Int) (p : List Int) (k : Nat) (h : k < p.length) : polyV x (p.drop k) = polyV x (p.drop (k + 1)) * x + p.getD k 0 := by
  rw [drop_getD p k h]; rfl
theorem polyV_drop_bd {x : Int} (hx : -1000 ≤ x ∧ x ≤ 1000) {p : List Int} (hp : ∀ j, -1000000 ≤ p.getD j 0 ∧ p.getD j 0 ≤ 1000000) (h5 : p.length ≤ 5) (k : Nat) : -1001001001001000000 ≤ polyV x (p.drop k) ∧ polyV x (p.drop k) ≤ 1001001001001000000 := by
  have h1 := polyV_bd hx (p := p.drop k) (fun j => by rw [getD_drop]; exact hp _)
  have h2 := polyB_5 (n := (p.drop k).length) (by rw [List.length_drop]; omega)
  omega
theorem polyV_mul_bd {x : Int} (hx : -1000 ≤ x ∧ x ≤ 1000) {p : List Int} (hp : ∀ j, -1000000 ≤ p.getD j 0 ∧ p.getD j 0 ≤ 1000000) (h5 : p.length ≤ 5) (k : Nat) : -1001001001000000000 ≤ polyV x (p.drop (k + 1)) * x ∧ polyV x (p.drop (k + 1)) * x ≤ 1001001001000000000 := by
  have h1 := polyV_bd hx (p := p.drop (k + 1)) (fun j => by rw [getD_drop]; exact hp _)
  have h2 := polyB_le4 (n := (p.drop (k + 1)).length) (by rw [List.length_drop]; omega)
  have := mul_bd (a := 1001001001000000) (b := 1000) (x := polyV x (p.drop (k + 1))) (y := x) (by omega) (by omega) hx.1 hx.2
  omega

/-! ### the cut at the end -/
def trimN (p : List Int) : Nat → Nat
  | 0 => 0
  | n + 1 => if p.getD n 0 = 0 then trimN p n else n + 1
def trimL (p : List Int) : List Int := p.take (trimN p p.length)
theorem trimN_le (p : List Int) : ∀ n, trimN p n ≤ n
  | 0 => Nat.le_refl _
  | n + 1 => by
    unfold trimN
    have := trimN_le p n
    split <;> omega
theorem trimN_zero {p : List Int} {n : Nat} (h : p.getD n 0 = 0) : trimN p (n + 1) = trimN p n := by simp only [trimN, if_pos h]
theorem trimN_stop {p : List Int} {n : Nat} (h : ¬ p.getD n 0 = 0) : trimN p (n + 1) = n + 1 := by simp only [trimN, if_neg h]
theorem trimN_snoc (p : List Int) (x : Int) : ∀ n, n ≤ p.length → trimN (p ++ [x]) n = trimN p n
  | 0, _ => rfl
  | n + 1, h => by
    have e : (p ++ [x]).getD n 0 = p.getD n 0 := by simp [List.getD_eq_getElem?_getD, List.getElem?_append_left (show n < p.length by omega)]
    simp only [trimN, e, trimN_snoc p x n (by omega)]
theorem trimL_snoc (p : List Int) : trimL (p ++ [0]) = trimL p := by
  unfold trimL
  rw [List.length_append, List.length_singleton]
  have e : (p ++ [(0 : Int)]).getD p.length 0 = 0 := by simp [List.getD_eq_getElem?_getD]
  rw [trimN_zero e, trimN_snoc p 0 p.length (Nat.le_refl _), List.take_append_of_le_length (trimN_le p _)]

/-! ### products -/
def addAt (l : List Int) (j : Nat) (y : Int) : List Int := l.set j (l.getD j 0 + y)
theorem addAt_length (l : List Int) (j : Nat) (y : Int) : (addAt l j y).length = l.length := by simp [addAt]
def mulRow (l : List Int) (x : Int) (b : List Int) (i : Nat) : Nat → List Int
  | 0 => l
  | k + 1 => addAt (mulRow l x b i k) (i + k) (x * b.getD k 0)
def mulTo (N : Nat) (a b : List Int) : Nat → List Int
  | 0 => List.replicate N 0
  | i + 1 => mulRow (mulTo N a b i) (a.getD i 0) b i b.length
theorem mulRow_length (l : List Int) (x : Int) (b : List Int) (i : Nat) : ∀ k, (mulRow l x b i k).length = l.length
  | 0 => rfl
  | k + 1 => by rw [mulRow, addAt_length, mulRow_length l x b i k]
theorem mulTo_length (N : Nat) (a b : List Int) : ∀ i, (mulTo N a b i).length = N
  | 0 => by simp [mulTo]
  | i + 1 => by rw [mulTo, mulRow_length, mulTo_length N a b i]
theorem addAt_snoc (l : List Int) (z : Int) (j : Nat) (y : Int) (h : j < l.length) : addAt (l ++ [z]) j y = addAt l j y ++ [z] := by
  unfold addAt
  rw [List.set_append_left _ _ h]
  congr 2
  simp [List.getD_eq_getElem?_getD, List.getElem?_append_left h]
theorem mulRow_snoc (l : List Int) (z x : Int) (b : List Int) (i : Nat) : ∀ k, i + k ≤ l.length → mulRow (l ++ [z]) x b i k = mulRow l x b i k ++ [z]
  | 0, _ => rfl
  | k + 1, h => by
    rw [mulRow, mulRow_snoc l z x b i k (by omega), addAt_snoc _ _ _ _ (by rw [mulRow_length]; omega)]
    rfl
theorem mulTo_snoc (N : Nat) (a b : List Int) : ∀ i, i + b.length ≤ N + 1 → mulTo (N + 1) a b i = mulTo N a b i ++ [0]
  | 0, _ => by simp only [mulTo]; exact List.replicate_succ'
  | i + 1, h => by
    rw [mulTo, mulTo_snoc N a b i (by omega), mulRow_snoc _ _ _ _ _ _ (by rw [mulTo_length]; omega)]
    rfl
theorem addAt_bd {l : List Int} {M Y : Int} (j : Nat) {y : Int} (hM : 0 ≤ M) (hY : 0 ≤ Y) (h : ∀ q, -M ≤ l.getD q 0 ∧ l.getD q 0 ≤ M) (hy : -Y ≤ y ∧ y ≤ Y) : ∀ q, -(M + Y) ≤ (addAt l j y).getD q 0 ∧ (addAt l j y).getD q 0 ≤ M + Y := by
  intro q
  unfold addAt
  have hq := h q
  have hj := h j
  by_cases e : j = q
  · subst e
    by_cases hl : j < l.length
    · have e2 : (l.set j (l.getD j 0 + y)).getD j 0 = l.getD j 0 + y := by rw [List.getD_eq_getElem?_getD, List.getElem?_set_self hl]; rfl
      rw [e2]; omega
    · have e2 : (l.set j (l.getD j 0 + y)).getD j 0 = 0 := by rw [List.getD_eq_getElem?_getD, List.getElem?_eq_none (by rw [List.length_set]; omega)]; rfl
      rw [e2]; omega
  · have e2 : (l.set j (l.getD j 0 + y)).getD q 0 = l.getD q 0 := by rw [List.getD_eq_getElem?_getD, List.getElem?_set_ne e, ← List.getD_eq_getElem?_getD]
    rw [e2]; omega
theorem mulRow_bd {l : List Int} {M x : Int} {b : List Int} (i : Nat) (hM : 0 ≤ M) (h : ∀ q, -M ≤ l.getD q 0 ∧ l.getD q 0 ≤ M) (hx : -1000000 ≤ x ∧ x ≤ 1000000) (hb : ∀ j, -1000000 ≤ b.getD j 0 ∧ b.getD j 0 ≤ 1000000) :
    ∀ (k : Nat) (q : Nat), -(M + 1000000000000 * (k : Int)) ≤ (mulRow l x b i k).getD q 0 ∧ (mulRow l x b i k).getD q 0 ≤ M + 1000000000000 * (k : Int)
  | 0, q => by have := h q; simp only [mulRow]; omega
  | k + 1, q => by
    have ih := mulRow_bd i hM h hx hb k
    have hm := mul_bd (a := 1000000) (b := 1000000) hx.1 hx.2 (hb k).1 (hb k).2
    have := addAt_bd (i + k) (by omega) (show (0 : Int) ≤ 1000000000000 by omega) ih (show -1000000000000 ≤ x * b.getD k 0 ∧ x * b.getD k 0 ≤ 1000000000000 by omega) q
    simp only [mulRow]
    omega
theorem mulTo_bd {N : Nat} {a b : List Int} (ha : ∀ j, -1000000 ≤ a.getD j 0 ∧ a.getD j 0 ≤ 1000000) (hb : ∀ j, -1000000 ≤ b.getD j 0 ∧ b.getD j 0 ≤ 1000000) (hl : b.length ≤ 30) :
    ∀ (i : Nat) (q : Nat), -(30000000000000 * (i : Int)) ≤ (mulTo N a b i).getD q 0 ∧ (mulTo N a b i).getD q 0 ≤ 30000000000000 * (i : Int)
  | 0, q => by
    have : (mulTo N a b 0).getD q 0 = 0 := by
      simp only [mulTo]
      rcases getD_mem_or (List.replicate N (0 : Int)) q 0 with h | h
      · exact List.eq_of_mem_replicate h
      · exact h
    rw [this]; omega
  | i + 1, q => by
    have ih := mulTo_bd (N := N) ha hb hl i
    have := mulRow_bd (l := mulTo N a b i) i (by omega) ih (ha i) hb b.length q
    simp only [mulTo]
    omega
end Go.Mx
namespace Go.Mx
theorem trimN_zeros (N : Nat) : ∀ n, n ≤ N → trimN (List.replicate N 0) n = 0
  | 0, _ => rfl
  | n + 1, h => by
    have e : (List.replicate N (0 : Int)).getD n 0 = 0 := by
      rcases getD_mem_or (List.replicate N (0 : Int)) n 0 with h | h
      · exact List.eq_of_mem_replicate h
      · exact h
    rw [trimN_zero e, trimN_zeros N n (by omega)]
theorem trimL_zeros (N : Nat) : trimL (List.replicate N 0) = [] := by
  unfold trimL
  rw [List.length_replicate, trimN_zeros N N (Nat.le_refl _)]; rfl
theorem mulTo_none (N : Nat) (a : List Int) : ∀ i, mulTo N a [] i = List.replicate N 0
  | 0 => rfl
  | i + 1 => by rw [mulTo, mulTo_none N a i]; rfl
/-- the product, if the numbers are right -/
def polyMul (a b : List Int) : List Int := if (numsOk 30 a && numsOk 30 b) = true then trimL (mulTo (a.length + b.length) a b a.length) else []
theorem polyMul_no {a b : List Int} (h : (numsOk 30 a && numsOk 30 b) = false) : polyMul a b = [] := by unfold polyMul; rw [if_neg (by rw [h]; simp)]
theorem polyMul_yes {a b : List Int} (ha : numsOk 30 a = true) (hb : numsOk 30 b = true) : polyMul a b = trimL (mulTo (a.length + b.length) a b a.length) := by unfold polyMul; rw [if_pos (by rw [ha, hb]; rfl)]
theorem polyMul_empty {a b : List Int} (h : a.length = 0 ∨ b.length = 0) : polyMul a b = [] := by
  unfold polyMul
  split
  · rcases h with h | h
    · rw [h]; exact trimL_zeros _
    · have hb : b = [] := List.eq_nil_of_length_eq_zero h
      subst hb
      rw [mulTo_none]; exact trimL_zeros _
  · rfl
theorem polyMul_less {a b : List Int} (ha : numsOk 30 a = true) (hb : numsOk 30 b = true) {N : Nat} (hN : a.length + b.length = N + 1) : polyMul a b = trimL (mulTo N a b a.length) := by
  rw [polyMul_yes ha hb, hN, mulTo_snoc N a b a.length (by omega), trimL_snoc]
theorem mulRow_at {N : Nat} {a b : List Int} (ha : ∀ j, -1000000 ≤ a.getD j 0 ∧ a.getD j 0 ≤ 1000000) (hb : ∀ j, -1000000 ≤ b.getD j 0 ∧ b.getD j 0 ≤ 1000000) (hla : a.length ≤ 30) (hlb : b.length ≤ 30) (i k q : Nat) (hi : i < a.length) (hk : k < b.length) :
    -1800000000000000 ≤ (mulRow (mulTo N a b i) (a.getD i 0) b i k).getD q 0 ∧ (mulRow (mulTo N a b i) (a.getD i 0) b i k).getD q 0 ≤ 1800000000000000 := by
  have h1 := mulTo_bd (N := N) ha hb hlb i
  have h2 := mulRow_bd (l := mulTo N a b i) i (by omega) h1 (ha i) hb k q
  omega
end Go.Mx

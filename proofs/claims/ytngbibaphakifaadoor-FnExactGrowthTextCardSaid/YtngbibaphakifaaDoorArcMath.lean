/- Plain laws: arcs of a graph, parts of a table, reachability. No dump is imported. -/
import Derived.Test.YtngbibaphakifaaDoorFillMath
namespace Go.Mx
open Go

/-! ### arcs -/
/-- the arcs from vertex i to the vertices below j -/
def arcsRow (r : List Int) (i j : Nat) : List (List Int) := (List.range j).flatMap fun q => List.replicate (r.getD q 0).toNat [(i : Int), (q : Int)]
/-- the arcs from the vertices below i -/
def arcsTo (m : List (List Int)) (i : Nat) : List (List Int) := (List.range i).flatMap fun p => arcsRow (m.getD p []) p m.length
def arcsL (m : List (List Int)) : List (List Int) := arcsTo m m.length
def sumTo (m : List (List Int)) (i : Nat) : Int := ((List.range i).map fun p => (m.getD p []).sum).sum
def sumM (m : List (List Int)) : Int := sumTo m m.length
theorem arcsRow_succ (r : List Int) (i j : Nat) : arcsRow r i (j + 1) = arcsRow r i j ++ List.replicate (r.getD j 0).toNat [(i : Int), (j : Int)] := by
  simp [arcsRow, List.range_succ]
theorem arcsTo_succ (m : List (List Int)) (i : Nat) : arcsTo m (i + 1) = arcsTo m i ++ arcsRow (m.getD i []) i m.length := by
  simp [arcsTo, List.range_succ]
theorem sumTo_succ (m : List (List Int)) (i : Nat) : sumTo m (i + 1) = sumTo m i + (m.getD i []).sum := by
  simp [sumTo, List.range_succ]
theorem arcsRow_length {r : List Int} (h : ∀ j, 0 ≤ r.getD j 0) (i : Nat) : ∀ j, j ≤ r.length → ((arcsRow r i j).length : Int) = (r.take j).sum
  | 0, _ => by simp [arcsRow]
  | j + 1, hj => by
    have ih := arcsRow_length h i j (by omega)
    rw [arcsRow_succ, List.length_append, List.length_replicate, sum_take_succ r j (by omega)]
    have := h j
    omega
theorem IsM.nn {n : Nat} {m : List (List Int)} (h : IsM n m) (i j : Nat) : 0 ≤ ((m.getD i []).take j).sum := (sum_take_pos (m.getD i []) 1000000 (by omega) (fun q => ⟨h.low i q, h.high i q⟩) j).1
theorem IsM.sum_nn {n : Nat} {m : List (List Int)} (h : IsM n m) (i : Nat) : 0 ≤ (m.getD i []).sum := by
  have := h.nn i (m.getD i []).length
  rwa [List.take_length] at this
theorem IsM.sumTo_bd {n : Nat} {m : List (List Int)} (h : IsM n m) : ∀ i : Nat, 0 ≤ sumTo m i ∧ sumTo m i ≤ (i : Int) * 1000000000
  | 0 => by simp [sumTo]
  | i + 1 => by
    have ih := h.sumTo_bd i
    have := h.rowS_bd i
    unfold rowS at this
    rw [sumTo_succ]
    omega
theorem IsM.sumTo_mono {n : Nat} {m : List (List Int)} (h : IsM n m) (i : Nat) : ∀ k, sumTo m i ≤ sumTo m (i + k)
  | 0 => Int.le_refl _
  | k + 1 => by
    have ih := h.sumTo_mono i k
    rw [← Nat.add_assoc, sumTo_succ]
    have := h.sum_nn (i + k)
    omega
theorem IsM.arcsTo_length {n : Nat} {m : List (List Int)} (h : IsM n m) : ∀ i, i ≤ n → ((arcsTo m i).length : Int) = sumTo m i
  | 0, _ => by simp [arcsTo, sumTo]
  | i + 1, hi => by
    have ih := h.arcsTo_length i (by omega)
    have hr := arcsRow_length (r := m.getD i []) (h.low i) i (m.getD i []).length (Nat.le_refl _)
    rw [List.take_length] at hr
    rw [arcsTo_succ, List.length_append, sumTo_succ, h.len]
    rw [h.row i (by omega)] at hr
    omega
/-- on the way: rows below i, columns below j, k copies -/
def arcsAt (m : List (List Int)) (i j k : Nat) : List (List Int) := arcsTo m i ++ arcsRow (m.getD i []) i j ++ List.replicate k [(i : Int), (j : Int)]
theorem arcsAt_zero (m : List (List Int)) (i : Nat) : arcsAt m i 0 0 = arcsTo m i := by simp [arcsAt, arcsRow]
theorem arcsAt_start (m : List (List Int)) (i j : Nat) : arcsAt m i j 0 = arcsTo m i ++ arcsRow (m.getD i []) i j := by simp [arcsAt]
theorem arcsAt_succ (m : List (List Int)) (i j k : Nat) : arcsAt m i j (k + 1) = arcsAt m i j k ++ [[(i : Int), (j : Int)]] := by
  simp [arcsAt, List.replicate_succ']
theorem arcsAt_col (m : List (List Int)) (i j : Nat) (k : Nat) (hk : (k : Int) = (m.getD i []).getD j 0) : arcsAt m i j k = arcsAt m i (j + 1) 0 := by
  rw [arcsAt_start, arcsRow_succ, ← hk]
  simp [arcsAt]
theorem arcsAt_row (m : List (List Int)) (i : Nat) : arcsAt m i m.length 0 = arcsAt m (i + 1) 0 0 := by
  rw [arcsAt_zero, arcsTo_succ, arcsAt_start]
theorem IsM.arcsAt_length {n : Nat} {m : List (List Int)} (h : IsM n m) {i j k : Nat} (hi : i < n) (hj : j < n) (hk : (k : Int) ≤ (m.getD i []).getD j 0) : ((arcsAt m i j k).length : Int) ≤ sumM m := by
  have h1 := h.arcsTo_length i (by omega)
  have h2 := arcsRow_length (r := m.getD i []) (h.low i) i j (by rw [h.row i hi]; omega)
  have h3 := sum_take_succ (m.getD i []) j (by rw [h.row i hi]; omega)
  have h4 := h.sumTo_mono (i + 1) (n - (i + 1))
  rw [show i + 1 + (n - (i + 1)) = n by omega, sumTo_succ] at h4
  have h5 : ((m.getD i []).take (j + 1)).sum ≤ (m.getD i []).sum := by
    have e := congrArg List.sum (List.take_append_drop (j + 1) (m.getD i []))
    rw [List.sum_append] at e
    have h6 : ∀ l : List Int, (∀ x ∈ l, 0 ≤ x) → 0 ≤ l.sum := by
      intro l
      induction l with
      | nil => intro _; simp
      | cons a l ih =>
        intro hl
        have h7 := ih fun x hx => hl x (List.mem_cons_of_mem _ hx)
        have h8 := hl a (List.mem_cons_self ..)
        simp only [List.sum_cons]; omega
    have h9 : 0 ≤ ((m.getD i []).drop (j + 1)).sum := by
      apply h6
      intro x hx
      have hx2 := List.mem_of_mem_drop hx
      obtain ⟨q, hq, e⟩ := List.getElem_of_mem hx2
      have := h.low i q
      rw [List.getD_eq_getElem?_getD (l := m.getD i []), List.getElem?_eq_getElem hq] at this
      simp only [Option.getD_some] at this
      rw [e] at this
      exact this
    omega
  unfold sumM arcsAt
  rw [h.len, List.length_append, List.length_append, List.length_replicate]
  omega
theorem arcsL_two (m : List (List Int)) : ∀ r ∈ arcsL m, r.length = 2 := by
  intro r hr
  simp only [arcsL, arcsTo, arcsRow, List.mem_flatMap, List.mem_replicate] at hr
  obtain ⟨p, _, q, _, _, rfl⟩ := hr
  rfl
theorem arcsL_at_two (m : List (List Int)) (i : Nat) (hi : i < (arcsL m).length) : ((arcsL m).getD i []).length = 2 := by
  rw [List.getD_eq_getElem?_getD, List.getElem?_eq_getElem hi]
  exact arcsL_two m _ (List.getElem_mem hi)

/-- the graph of the arcs -/
def blkF (l : List (List Int)) (i j : Nat) : Int := if (l.getD i []).getD 1 0 = (l.getD j []).getD 0 0 then 1 else 0
def arcsG (m : List (List Int)) : List (List Int) := if isMat m = true ∧ sumM m ≤ 60 then arcsL m else []
def blkO (m : List (List Int)) : Option (List (List Int)) := if 1 ≤ (arcsG m).length ∧ (arcsG m).length ≤ 9 then some (tabF (arcsG m).length (arcsG m).length (blkF (arcsG m))) else none

/-! ### parts -/
def partL (m : List (List Int)) (l : List Int) : List (List Int) := l.map fun i => l.map fun j => (m.getD i.toNat []).getD j.toNat 0
theorem partL_length (m : List (List Int)) (l : List Int) : (partL m l).length = l.length := by simp [partL]
/-- on the way -/
def partRow (m : List (List Int)) (l : List Int) (i j : Nat) : List Int := (l.take j).map fun q => (m.getD (l.getD i 0).toNat []).getD q.toNat 0
def partTo (m : List (List Int)) (l : List Int) (i : Nat) : List (List Int) := (partL m l).take i
theorem partRow_zero (m : List (List Int)) (l : List Int) (i : Nat) : partRow m l i 0 = [] := by simp [partRow]
theorem partRow_succ (m : List (List Int)) (l : List Int) (i j : Nat) (hj : j < l.length) : partRow m l i (j + 1) = partRow m l i j ++ [(m.getD (l.getD i 0).toNat []).getD (l.getD j 0).toNat 0] := by
  unfold partRow
  rw [List.take_succ_eq_append_getElem hj, List.map_append]
  simp [List.getD_eq_getElem?_getD, List.getElem?_eq_getElem hj]
theorem partTo_zero (m : List (List Int)) (l : List Int) : partTo m l 0 = [] := by simp [partTo]
theorem partTo_succ (m : List (List Int)) (l : List Int) (i : Nat) (hi : i < l.length) : partTo m l (i + 1) = partTo m l i ++ [partRow m l i l.length] := by
  unfold partTo
  rw [List.take_succ_eq_append_getElem (by rw [partL_length]; exact hi)]
  congr 2
  simp [partL, partRow, List.getD_eq_getElem?_getD, List.getElem?_eq_getElem hi]
theorem partTo_all (m : List (List Int)) (l : List Int) : partTo m l l.length = partL m l := by
  unfold partTo; rw [List.take_of_length_le (by rw [partL_length]; exact Nat.le_refl _)]
theorem partTo_length (m : List (List Int)) (l : List Int) (i : Nat) (h : i ≤ l.length) : (partTo m l i).length = i := by
  unfold partTo; rw [List.length_take, partL_length]; omega
theorem partRow_length (m : List (List Int)) (l : List Int) (i j : Nat) (h : j ≤ l.length) : (partRow m l i j).length = j := by
  unfold partRow; rw [List.length_map, List.length_take]; omega
theorem partL_row (m : List (List Int)) (l : List Int) (i : Nat) (h : i < l.length) : (partL m l).getD i [] = l.map fun j => (m.getD (l.getD i 0).toNat []).getD j.toNat 0 := by
  simp [partL, List.getD_eq_getElem?_getD, List.getElem?_eq_getElem h]
theorem map_getD_bd {l : List Int} {f : Int → Int} {a b : Int} (ha : a ≤ 0) (hb : 0 ≤ b) (h : ∀ j, a ≤ f j ∧ f j ≤ b) (k : Nat) : a ≤ (l.map f).getD k 0 ∧ (l.map f).getD k 0 ≤ b := by
  rcases getD_mem_or (l.map f) k 0 with hm | hm
  · rw [List.mem_map] at hm
    obtain ⟨x, _, e⟩ := hm
    rw [← e]; exact h x
  · rw [hm]; exact ⟨ha, hb⟩
theorem partL_sq {b : Int} (hb : 0 ≤ b) {m : List (List Int)} (l : List Int) (h : ∀ i j, -b ≤ (m.getD i []).getD j 0 ∧ (m.getD i []).getD j 0 ≤ b) : Sq l.length b (partL m l) := by
  have hx : ∀ i j, -b ≤ ((partL m l).getD i []).getD j 0 ∧ ((partL m l).getD i []).getD j 0 ≤ b := by
    intro i j
    by_cases hi : i < l.length
    · rw [partL_row m l i hi]
      exact map_getD_bd (by omega) hb (fun q => h _ _) j
    · rw [List.getD_eq_getElem?_getD (l := partL m l), List.getElem?_eq_none (by rw [partL_length]; omega)]
      simp; omega
  exact ⟨partL_length m l, fun i hi => by rw [partL_row m l i hi, List.length_map], fun i j => (hx i j).1, fun i j => (hx i j).2⟩

/-! ### the first rows and columns; the growth -/
def natL (k : Nat) : List Int := (List.range k).map fun i : Nat => (i : Int)
theorem natL_succ (k : Nat) : natL (k + 1) = natL k ++ [(k : Int)] := by simp [natL, List.range_succ]
theorem natL_length (k : Nat) : (natL k).length = k := by simp [natL]
theorem natL_at (k j : Nat) (h : j < k) : (natL k).getD j 0 = (j : Int) := by simp [natL, List.getD_eq_getElem?_getD, h]
theorem partL_tabF (n k : Nat) (h : k ≤ n) (F : Nat → Nat → Int) : partL (tabF n n F) (natL k) = tabF k k F := by
  unfold partL natL tabF rowF
  rw [List.map_map]
  apply List.map_congr_left
  intro i hi
  have hi := List.mem_range.1 hi
  simp only [Function.comp, List.map_map]
  apply List.map_congr_left
  intro j hj
  have hj := List.mem_range.1 hj
  have e1 : ((i : Nat) : Int).toNat = i := by omega
  have e2 : ((j : Nat) : Int).toNat = j := by omega
  have := tabF_at n n F i j (by omega) (by omega)
  unfold tabF rowF at this
  simp only [Function.comp, e1, e2]
  exact this
def lessF (m : List (List Int)) (q d : Int) (i j : Nat) : Int := (if i = j then q else 0) - d * at2 m i j
/-- all the first minors up to k are greater than 0 -/
def belowTo (m : List (List Int)) (q d : Int) (k : Nat) : Bool := (List.range k).all fun i => decide (0 < detL (i + 1) (tabF (i + 1) (i + 1) (lessF m q d)))
def belowB (m : List (List Int)) (q d : Int) : Bool := belowTo m q d m.length
theorem belowTo_zero (m : List (List Int)) (q d : Int) : belowTo m q d 0 = true := rfl
theorem belowTo_succ (m : List (List Int)) (q d : Int) (k : Nat) : belowTo m q d (k + 1) = (belowTo m q d k && decide (0 < detL (k + 1) (tabF (k + 1) (k + 1) (lessF m q d)))) := by
  simp [belowTo, List.range_succ]
theorem belowB_bad {m : List (List Int)} {q d : Int} {k : Nat} (hk : k < m.length) (h : detL (k + 1) (tabF (k + 1) (k + 1) (lessF m q d)) ≤ 0) : belowB m q d = false := by
  unfold belowB belowTo
  rw [List.all_eq_false]
  exact ⟨k, List.mem_range.2 hk, by simp; omega⟩
theorem tabF_sq {n : Nat} {b : Int} (hb : 0 ≤ b) {F : Nat → Nat → Int} (h : ∀ i j, -b ≤ F i j ∧ F i j ≤ b) : Sq n b (tabF n n F) := by
  have hx : ∀ i j, -b ≤ ((tabF n n F).getD i []).getD j 0 ∧ ((tabF n n F).getD i []).getD j 0 ≤ b := by
    intro i j
    by_cases hi : i < n
    · by_cases hj : j < n
      · rw [tabF_at _ _ _ _ _ hi hj]; exact h i j
      · rw [tabF_row _ _ _ _ hi, List.getD_eq_getElem?_getD, List.getElem?_eq_none (by rw [rowF_length]; omega)]; simp; omega
    · rw [List.getD_eq_getElem?_getD (l := tabF n n F), List.getElem?_eq_none (by rw [tabF_length]; omega)]; simp; omega
  exact ⟨tabF_length _ _ _, fun i hi => by rw [tabF_row _ _ _ _ hi, rowF_length], fun i j => (hx i j).1, fun i j => (hx i j).2⟩
theorem lessF_bd {m : List (List Int)} {q d : Int} (hm : ∀ i j, 0 ≤ at2 m i j ∧ at2 m i j ≤ 9) (hq : 0 ≤ q ∧ q ≤ 4000) (hd : 0 ≤ d ∧ d ≤ 100) (i j : Nat) : -10000 ≤ lessF m q d i j ∧ lessF m q d i j ≤ 10000 := by
  have h1 := mul_bd (x := d) (y := at2 m i j) (a := 100) (b := 9) (by omega) (by omega) (by have := hm i j; omega) (hm i j).2
  unfold lessF
  split <;> omega
/-- the search by halves -/
def halve (f : Int → Bool) : Nat → Int → Int → Int
  | 0, low, _ => low
  | k + 1, low, high => if high - low > 1 then (if f ((low + high) / 2) then halve f k low ((low + high) / 2) else halve f k ((low + high) / 2) high) else low
theorem halve_done {f : Int → Bool} {low high : Int} (h : ¬ high - low > 1) : ∀ k, halve f k low high = low
  | 0 => rfl
  | k + 1 => by simp only [halve]; rw [if_neg h]
/-- more fuel changes nothing -/
theorem halve_fuel {f : Int → Bool} : ∀ (k : Nat) (low high : Int), high - low ≤ (k : Int) + 1 → halve f (k + 1) low high = halve f k low high
  | 0, low, high, h => by simp only [halve]; rw [if_neg (by omega)]
  | k + 1, low, high, h => by
    by_cases hd : high - low > 1
    · have h1 := halve_fuel (f := f) k low ((low + high) / 2) (by omega)
      have h2 := halve_fuel (f := f) k ((low + high) / 2) high (by omega)
      conv => lhs; unfold halve
      conv => rhs; unfold halve
      rw [if_pos hd, if_pos hd, h1, h2]
    · rw [halve_done hd, halve_done hd]
theorem halve_any {f : Int → Bool} (low high : Int) : ∀ (j k : Nat), high - low ≤ (k : Int) + 1 → halve f (k + j) low high = halve f k low high
  | 0, k, _ => rfl
  | j + 1, k, h => by
    rw [← Nat.add_assoc, halve_fuel (k + j) low high (by omega), halve_any low high j k h]
def floorG (m : List (List Int)) (d : Int) : Int := halve (fun q => belowB m q d) 4000 0 (36 * d + 1)
theorem halve_step {f : Int → Bool} {low high : Int} (hd : high - low > 1) (hw : high - low ≤ 4001) : halve f 4000 low high = if f ((low + high) / 2) then halve f 4000 low ((low + high) / 2) else halve f 4000 ((low + high) / 2) high := by
  have h0 : halve f 4000 low high = halve f (3999 + 1) low high := rfl
  rw [h0]
  conv => lhs; unfold halve
  rw [if_pos hd]
  have h1 := halve_fuel (f := f) 3999 low ((low + high) / 2) (by omega)
  have h2 := halve_fuel (f := f) 3999 ((low + high) / 2) high (by omega)
  rw [← h1, ← h2]
end Go.Mx

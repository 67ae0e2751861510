/- Plain laws: sums of principal minors, and the polynomial of them. No dump is imported. -/
import Derived.Test.YtihidaeecfbngaaArcMath
namespace Go.Mx
open Go

def bitsL (s n : Nat) : List Int := ((List.range n).filter fun i => decide (s / 2 ^ i % 2 = 1)).map fun i : Nat => (i : Int)
theorem bitsL_yes (s n : Nat) (h : s / 2 ^ n % 2 = 1) : bitsL s (n + 1) = bitsL s n ++ [(n : Int)] := by
  simp [bitsL, List.range_succ, List.filter_append, h]
theorem bitsL_no (s n : Nat) (h : ¬ s / 2 ^ n % 2 = 1) : bitsL s (n + 1) = bitsL s n := by
  simp [bitsL, List.range_succ, List.filter_append, h]
theorem bitsL_zero (s : Nat) : bitsL s 0 = [] := rfl
theorem bitsL_length (s n : Nat) : (bitsL s n).length ≤ n := by
  unfold bitsL
  rw [List.length_map]
  have := List.length_filter_le (fun i => decide (s / 2 ^ i % 2 = 1)) (List.range n)
  rwa [List.length_range] at this
theorem bitsL_bd (s n j : Nat) (h : j < (bitsL s n).length) : ∃ i : Nat, (bitsL s n).getD j 0 = (i : Int) ∧ i < n := by
  have hm : (bitsL s n).getD j 0 ∈ bitsL s n := by
    rw [List.getD_eq_getElem?_getD, List.getElem?_eq_getElem h]; exact List.getElem_mem h
  simp only [bitsL, List.mem_map, List.mem_filter, List.mem_range] at hm
  obtain ⟨i, ⟨h1, _⟩, e⟩ := hm
  exact ⟨i, e.symm, h1⟩
def chTo (n k s : Nat) : List (List Int) := ((List.range s).filter fun x => decide ((bitsL x n).length = k)).map fun x => bitsL x n
theorem chTo_zero (n k : Nat) : chTo n k 0 = [] := rfl
theorem chTo_yes (n k s : Nat) (h : (bitsL s n).length = k) : chTo n k (s + 1) = chTo n k s ++ [bitsL s n] := by
  simp [chTo, List.range_succ, List.filter_append, h]
theorem chTo_no (n k s : Nat) (h : ¬ (bitsL s n).length = k) : chTo n k (s + 1) = chTo n k s := by
  simp [chTo, List.range_succ, List.filter_append, h]
theorem chTo_length (n k s : Nat) : (chTo n k s).length ≤ s := by
  unfold chTo
  rw [List.length_map]
  have := List.length_filter_le (fun x => decide ((bitsL x n).length = k)) (List.range s)
  rwa [List.length_range] at this
def chL (n k : Nat) : List (List Int) := chTo n k (2 ^ n)
theorem chL_mem {n k : Nat} {l : List Int} (h : l ∈ chL n k) : ∃ x, l = bitsL x n ∧ l.length = k := by
  simp only [chL, chTo, List.mem_map, List.mem_filter, decide_eq_true_eq] at h
  obtain ⟨x, ⟨_, h1⟩, rfl⟩ := h
  exact ⟨x, rfl, h1⟩
theorem chL_at {n k i : Nat} (h : i < (chL n k).length) : ∃ x, (chL n k).getD i [] = bitsL x n ∧ (bitsL x n).length = k := by
  have hm : (chL n k).getD i [] ∈ chL n k := by
    rw [List.getD_eq_getElem?_getD, List.getElem?_eq_getElem h]; exact List.getElem_mem h
  obtain ⟨x, h1, h2⟩ := chL_mem hm
  exact ⟨x, h1, by rw [← h1]; exact h2⟩
/-- the sum of the principal minors of a size, over the first sets -/
def pmTo (m : List (List Int)) (k s : Nat) : Int := ((List.range s).map fun x => if (bitsL x m.length).length = k then detL k (partL m (bitsL x m.length)) else 0).sum
theorem pmTo_zero (m : List (List Int)) (k : Nat) : pmTo m k 0 = 0 := rfl
theorem pmTo_yes (m : List (List Int)) (k s : Nat) (h : (bitsL s m.length).length = k) : pmTo m k (s + 1) = pmTo m k s + detL k (partL m (bitsL s m.length)) := by
  simp [pmTo, List.range_succ, h]
theorem pmTo_no (m : List (List Int)) (k s : Nat) (h : ¬ (bitsL s m.length).length = k) : pmTo m k (s + 1) = pmTo m k s := by
  simp [pmTo, List.range_succ, h]
def pmS (m : List (List Int)) (k : Nat) : Int := pmTo m k (2 ^ m.length)
def detSum (m : List (List Int)) (k : Nat) (L : List (List Int)) (c : Nat) : Int := ((L.take c).map fun l => detL k (partL m l)).sum
theorem detSum_zero (m : List (List Int)) (k : Nat) (L : List (List Int)) : detSum m k L 0 = 0 := by simp [detSum]
theorem detSum_succ (m : List (List Int)) (k : Nat) (L : List (List Int)) (c : Nat) (h : c < L.length) : detSum m k L (c + 1) = detSum m k L c + detL k (partL m (L.getD c [])) := by
  unfold detSum
  rw [List.take_succ_eq_append_getElem h, List.map_append, List.sum_append]
  simp [List.getD_eq_getElem?_getD, List.getElem?_eq_getElem h]
theorem chTo_sum (m : List (List Int)) (k : Nat) : ∀ s, ((chTo m.length k s).map fun l => detL k (partL m l)).sum = pmTo m k s
  | 0 => rfl
  | s + 1 => by
    have ih := chTo_sum m k s
    by_cases h : (bitsL s m.length).length = k
    · rw [chTo_yes _ _ _ h, pmTo_yes _ _ _ h, List.map_append, List.sum_append, ih]; simp
    · rw [chTo_no _ _ _ h, pmTo_no _ _ _ h, ih]
theorem detSum_all (m : List (List Int)) (k : Nat) : detSum m k (chL m.length k) (chL m.length k).length = pmS m k := by
  unfold detSum
  rw [List.take_length]
  exact chTo_sum m k _
/-- bounds -/
theorem minor_bd {m : List (List Int)} (h : ∀ i j, -10000 ≤ (m.getD i []).getD j 0 ∧ (m.getD i []).getD j 0 ≤ 10000) (l : List Int) (k : Nat) (hk : l.length = k) (h4 : k ≤ 4) : -240000000000000000 ≤ detL k (partL m l) ∧ detL k (partL m l) ≤ 240000000000000000 := by
  have hs := partL_sq (b := 10000) (by omega) (m := m) l h
  rw [hk] at hs
  have h1 := detL_bd (b := 10000) (by omega) hs
  have h2 := detB_4 h4
  omega
theorem pmTo_bd {m : List (List Int)} (h : ∀ i j, -10000 ≤ (m.getD i []).getD j 0 ∧ (m.getD i []).getD j 0 ≤ 10000) (k : Nat) (h4 : k ≤ 4) : ∀ s : Nat, -((s : Int) * 240000000000000000) ≤ pmTo m k s ∧ pmTo m k s ≤ (s : Int) * 240000000000000000
  | 0 => by simp [pmTo_zero]
  | s + 1 => by
    have ih := pmTo_bd h k h4 s
    by_cases he : (bitsL s m.length).length = k
    · rw [pmTo_yes _ _ _ he]
      have := minor_bd h (bitsL s m.length) k he h4
      omega
    · rw [pmTo_no _ _ _ he]; omega
theorem detSum_bd {m : List (List Int)} (h : ∀ i j, -10000 ≤ (m.getD i []).getD j 0 ∧ (m.getD i []).getD j 0 ≤ 10000) (k : Nat) (h4 : k ≤ 4) (L : List (List Int)) (hL : ∀ l ∈ L, l.length = k) : ∀ c : Nat, -((c : Int) * 240000000000000000) ≤ detSum m k L c ∧ detSum m k L c ≤ (c : Int) * 240000000000000000
  | 0 => by simp [detSum_zero]
  | c + 1 => by
    have ih := detSum_bd h k h4 L hL c
    by_cases hc : c < L.length
    · rw [detSum_succ _ _ _ _ hc]
      have hm : L.getD c [] ∈ L := by rw [List.getD_eq_getElem?_getD, List.getElem?_eq_getElem hc]; exact List.getElem_mem hc
      have := minor_bd h (L.getD c []) k (hL _ hm) h4
      omega
    · have e : detSum m k L (c + 1) = detSum m k L c := by
        unfold detSum
        rw [List.take_of_length_le (by omega), List.take_of_length_le (by omega)]
      rw [e]; omega
def cpF (m : List (List Int)) (k : Nat) : Int := sgn k * pmS m k
def cpL (m : List (List Int)) : List Int := rowF (m.length + 1) fun p => cpF m (m.length - p)
def tpL (m : List (List Int)) : List Int := rowF (m.length + 1) fun p => cpF m p
/-- the program's list on the way: the sizes below K done, of size K the first c sets -/
def cpTo (m : List (List Int)) (K c : Nat) : List Int := rowF (m.length + 1) fun p => if m.length - p < K then cpF m (m.length - p) else if m.length - p = K then sgn K * detSum m K (chL m.length K) c else 0
theorem cpTo_zero (m : List (List Int)) : cpTo m 0 0 = List.replicate (m.length + 1) 0 := by
  rw [← rowF_zero]
  apply rowF_congr
  intro p hp
  rw [if_neg (by omega), detSum_zero]; simp
theorem cpTo_at (m : List (List Int)) (K c : Nat) (hK : K ≤ m.length) : (cpTo m K c).getD (m.length - K) 0 = sgn K * detSum m K (chL m.length K) c := by
  unfold cpTo
  rw [rowF_at _ _ _ (by omega), if_neg (by omega), if_pos (by omega)]
theorem cpTo_set (m : List (List Int)) (K c : Nat) (hK : K ≤ m.length) (hc : c < (chL m.length K).length) : (cpTo m K c).set (m.length - K) (sgn K * detSum m K (chL m.length K) c + sgn K * detL K (partL m ((chL m.length K).getD c []))) = cpTo m K (c + 1) := by
  unfold cpTo
  rw [rowF_set]
  apply rowF_congr
  intro p hp
  unfold updR
  by_cases e : p = m.length - K
  · rw [if_pos e, if_neg (by omega), if_pos (by omega), detSum_succ _ _ _ _ hc, Int.mul_add]
  · rw [if_neg e]
    show (if m.length - p < K then cpF m (m.length - p) else if m.length - p = K then sgn K * detSum m K (chL m.length K) c else 0) = _
    by_cases h : m.length - p < K
    · rw [if_pos h, if_pos h]
    · rw [if_neg h, if_neg h, if_neg (by omega), if_neg (by omega)]
theorem cpTo_next (m : List (List Int)) (K : Nat) : cpTo m K (chL m.length K).length = cpTo m (K + 1) 0 := by
  unfold cpTo
  apply rowF_congr
  intro p hp
  by_cases h : m.length - p < K
  · rw [if_pos h, if_pos (by omega)]
  · rw [if_neg h]
    by_cases h2 : m.length - p = K
    · rw [if_pos h2, if_pos (by omega), detSum_all, h2]; rfl
    · rw [if_neg h2, if_neg (by omega)]
      split
      · rw [detSum_zero]; simp
      · rfl
theorem cpTo_all (m : List (List Int)) (c : Nat) : cpTo m (m.length + 1) c = cpL m := by
  apply rowF_congr
  intro p hp
  rw [if_pos (by omega)]
theorem cpTo_length (m : List (List Int)) (K c : Nat) : (cpTo m K c).length = m.length + 1 := rowF_length _ _
/-- the reference's list on the way -/
def cqTo (m : List (List Int)) (K : Nat) : List Int := rowF (m.length + 1) fun p => if m.length - p < K then cpF m (m.length - p) else 0
theorem cqTo_zero (m : List (List Int)) : cqTo m 0 = List.replicate (m.length + 1) 0 := by
  rw [← rowF_zero]; exact rowF_congr fun p _ => by rw [if_neg (by omega)]
theorem cqTo_set (m : List (List Int)) (K : Nat) (hK : K ≤ m.length) : (cqTo m K).set (m.length - K) (cpF m K) = cqTo m (K + 1) := by
  unfold cqTo
  rw [rowF_set]
  apply rowF_congr
  intro p hp
  unfold updR
  by_cases e : p = m.length - K
  · rw [if_pos e, if_pos (by omega)]; congr 1; omega
  · rw [if_neg e]
    show (if m.length - p < K then cpF m (m.length - p) else 0) = _
    by_cases h : m.length - p < K
    · rw [if_pos h, if_pos (by omega)]
    · rw [if_neg h, if_neg (by omega)]
theorem cqTo_all (m : List (List Int)) : cqTo m (m.length + 1) = cpL m := rowF_congr fun p hp => by rw [if_pos (by omega)]
theorem cqTo_length (m : List (List Int)) (K : Nat) : (cqTo m K).length = m.length + 1 := rowF_length _ _
/-- turned -/
theorem cpL_at (m : List (List Int)) (p : Nat) (h : p ≤ m.length) : (cpL m).getD p 0 = cpF m (m.length - p) := rowF_at _ _ _ (by omega)
theorem tpTo_succ (m : List (List Int)) (k : Nat) : rowF (k + 1) (fun p => cpF m p) = rowF k (fun p => cpF m p) ++ [cpF m k] := rowF_succ k _
end Go.Mx

/- Plain laws: a number on the diagonal less a multiple of a matrix; first rows and columns. No dump is imported. -/
import Derived.Test.YtngbibaphakifaaDoorJoinMath
import Derived.Test.YtngbibaphakifaaDoorArcMath
namespace Go.Mx
open Go

def lessTo (m : List (List Int)) (q d : Int) (i j p r : Nat) : Int := if p < i then lessF m q d p r else if p = i ∧ r < j then -(d * at2 m p r) else 0
theorem lessTo_zero (m : List (List Int)) (q d : Int) (n : Nat) : tabF n n (lessTo m q d 0 0) = tabF n n (fun _ _ => 0) := by
  apply tabF_congr
  intro p r _ _
  unfold lessTo
  rw [if_neg (by omega), if_neg (by omega)]
theorem lessTo_set (m : List (List Int)) (q d : Int) (n i j : Nat) (hi : i < n) : setM (tabF n n (lessTo m q d i j)) i j (-(d * at2 m i j)) = tabF n n (lessTo m q d i (j + 1)) := by
  rw [setM_tabF _ _ _ _ _ hi]
  apply tabF_congr
  intro p r _ _
  unfold updF lessTo
  by_cases e : p = i ∧ r = j
  · obtain ⟨rfl, rfl⟩ := e
    rw [if_pos ⟨rfl, rfl⟩, if_neg (by omega), if_pos (by omega)]
  · rw [if_neg e]
    by_cases h : p < i
    · rw [if_pos h, if_pos h]
    · rw [if_neg h, if_neg h]
      by_cases h2 : p = i ∧ r < j
      · rw [if_pos h2, if_pos (by omega)]
      · rw [if_neg h2, if_neg (by omega)]
theorem lessTo_diag (m : List (List Int)) (q d : Int) (n i : Nat) (hi : i < n) : setM (tabF n n (lessTo m q d i n)) i i (-(d * at2 m i i) + q) = tabF n n (lessTo m q d (i + 1) 0) := by
  rw [setM_tabF _ _ _ _ _ hi]
  apply tabF_congr
  intro p r _ hr
  unfold updF lessTo
  by_cases e : p = i ∧ r = i
  · obtain ⟨rfl, rfl⟩ := e
    rw [if_pos ⟨rfl, rfl⟩, if_pos (by omega)]
    unfold lessF
    rw [if_pos rfl]; omega
  · rw [if_neg e]
    by_cases h : p < i
    · rw [if_pos h, if_pos (by omega)]
    · rw [if_neg h]
      by_cases h2 : p = i
      · subst h2
        rw [if_pos ⟨rfl, hr⟩, if_pos (by omega)]
        unfold lessF
        rw [if_neg (by omega)]; omega
      · rw [if_neg (by omega), if_neg (by omega), if_neg (by omega)]
theorem lessTo_at (m : List (List Int)) (q d : Int) (n i : Nat) (hi : i < n) : ((tabF n n (lessTo m q d i n)).getD i []).getD i 0 = -(d * at2 m i i) := by
  rw [tabF_at _ _ _ _ _ hi hi]
  unfold lessTo
  rw [if_neg (by omega), if_pos ⟨rfl, hi⟩]
theorem lessTo_all (m : List (List Int)) (q d : Int) (n : Nat) : tabF n n (lessTo m q d n 0) = tabF n n (lessF m q d) := by
  apply tabF_congr
  intro p r hp _
  unfold lessTo
  rw [if_pos hp]
theorem take_tabF (n k : Nat) (h : k ≤ n) (F : Nat → Nat → Int) : ((tabF n n F).take k).map (fun r => r.take k) = tabF k k F := by
  have hr : ∀ N (f : Nat → Int), k ≤ N → (rowF N f).take k = rowF k f := by
    intro N f hN
    unfold rowF
    rw [← List.map_take, List.take_range, Nat.min_eq_left hN]
  unfold tabF
  rw [← List.map_take, List.take_range, Nat.min_eq_left h, List.map_map]
  apply List.map_congr_left
  intro i _
  exact hr n (F i) h
end Go.Mx
namespace Go
open Go.RowKit
theorem ReadsI.take {w : World} {a : Option Addr} {n c : Nat} {xs : List Int} (h : ReadsI w (.slice a n c) xs) (k : Nat) (hk : k ≤ n) : ReadsI w (.slice a k c) (xs.take k) := by
  obtain ⟨hn, h1, h2⟩ := h.len
  have hl : (xs.take k).length = k := by rw [List.length_take]; omega
  refine ⟨a, c, by rw [List.length_map, hl], by rw [List.length_map, hl]; omega, by unfold maxLen; omega, fun i hi => ?_⟩
  rw [List.length_map, hl] at hi
  obtain ⟨b, o, ha, hc⟩ := h.at i (by omega)
  refine ⟨b, o, ha, ?_⟩
  rw [hc]
  simp [List.getD_eq_getElem?_getD, List.getElem?_eq_getElem (show i < xs.length by omega)]
end Go

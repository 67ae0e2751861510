/- The places of a graph through which a way goes that is infinite in both directions: the steps that find them. No program in sight. -/
import Derived.Test.YtngbibaphakifaaDoorCodeMath
namespace Go.Cm

/-- the arcs of the first i places -/
def arcsTo (next : List (List Nat)) (i : Nat) : List (Nat × Nat) := (List.range i).flatMap fun a => (next.getD a []).map fun k => (a, k)
def arcsIn (next : List (List Nat)) (i p : Nat) : List (Nat × Nat) := arcsTo next i ++ ((next.getD i []).take p).map fun k => (i, k)
theorem arcsIn_zero (next : List (List Nat)) (i : Nat) : arcsIn next i 0 = arcsTo next i := by simp [arcsIn]
theorem arcsIn_succ (next : List (List Nat)) (i p : Nat) (h : p < (next.getD i []).length) : arcsIn next i (p + 1) = arcsIn next i p ++ [(i, (next.getD i []).getD p 0)] := by
  unfold arcsIn
  rw [List.take_succ_eq_append_getElem h, List.map_append, ← List.append_assoc, List.getD_eq_getElem?_getD (l := next.getD i []), List.getElem?_eq_getElem h]
  rfl
theorem arcsIn_all (next : List (List Nat)) (i : Nat) : arcsIn next i (next.getD i []).length = arcsTo next (i + 1) := by
  unfold arcsIn arcsTo
  rw [List.take_length, List.range_succ, List.flatMap_append]
  simp

def onB (l : List Bool) (p : Nat × Nat) : Bool := l.getD p.1 false && l.getD p.2 false
/-- from which places an arc goes on, among these arcs -/
def fromL (n : Nat) (l : List Bool) (P : List (Nat × Nat)) : List Bool := (List.range n).map fun i => P.any fun p => p.1 == i && onB l p
/-- to which -/
def toL (n : Nat) (l : List Bool) (P : List (Nat × Nat)) : List Bool := (List.range n).map fun i => P.any fun p => p.2 == i && onB l p
theorem fromL_nil (n : Nat) (l : List Bool) : fromL n l [] = List.replicate n false := by
  apply List.ext_getElem
  · simp [fromL]
  · intro i h1 h2; simp [fromL]
theorem toL_nil (n : Nat) (l : List Bool) : toL n l [] = List.replicate n false := by
  apply List.ext_getElem
  · simp [toL]
  · intro i h1 h2; simp [toL]
theorem fromL_length (n : Nat) (l : List Bool) (P : List (Nat × Nat)) : (fromL n l P).length = n := by simp [fromL]
theorem toL_length (n : Nat) (l : List Bool) (P : List (Nat × Nat)) : (toL n l P).length = n := by simp [toL]
theorem fromL_on {n : Nat} {l : List Bool} {P : List (Nat × Nat)} {p : Nat × Nat} (h : onB l p = true) : fromL n l (P ++ [p]) = (fromL n l P).set p.1 true := by
  apply List.ext_getElem
  · simp [fromL]
  · intro i h1 h2
    rw [List.getElem_set]
    simp only [fromL, List.getElem_map, List.getElem_range, List.any_append, List.any_cons, List.any_nil, Bool.or_false, h, Bool.and_true]
    by_cases e : p.1 = i
    · simp [e]
    · simp [e]
theorem toL_on {n : Nat} {l : List Bool} {P : List (Nat × Nat)} {p : Nat × Nat} (h : onB l p = true) : toL n l (P ++ [p]) = (toL n l P).set p.2 true := by
  apply List.ext_getElem
  · simp [toL]
  · intro i h1 h2
    rw [List.getElem_set]
    simp only [toL, List.getElem_map, List.getElem_range, List.any_append, List.any_cons, List.any_nil, Bool.or_false, h, Bool.and_true]
    by_cases e : p.2 = i
    · simp [e]
    · simp [e]
theorem fromL_off {n : Nat} {l : List Bool} {P : List (Nat × Nat)} {p : Nat × Nat} (h : onB l p = false) : fromL n l (P ++ [p]) = fromL n l P := by
  unfold fromL
  apply List.map_congr_left
  intro i _
  simp [h]
theorem toL_off {n : Nat} {l : List Bool} {P : List (Nat × Nat)} {p : Nat × Nat} (h : onB l p = false) : toL n l (P ++ [p]) = toL n l P := by
  unfold toL
  apply List.map_congr_left
  intro i _
  simp [h]

/-- stays a place? -/
def stayB (next : List (List Nat)) (l : List Bool) (i : Nat) : Bool := (fromL next.length l (arcsTo next next.length)).getD i false && (toL next.length l (arcsTo next next.length)).getD i false
/-- one step, done for the first i places -/
def liveMix (next : List (List Nat)) (l : List Bool) (i : Nat) : List Bool := (List.range next.length).map fun j => l.getD j false && (stayB next l j || !decide (j < i))
def liveStep (next : List (List Nat)) (l : List Bool) : List Bool := liveMix next l next.length
theorem liveMix_length (next : List (List Nat)) (l : List Bool) (i : Nat) : (liveMix next l i).length = next.length := by simp [liveMix]
theorem liveMix_zero (next : List (List Nat)) (l : List Bool) (h : l.length = next.length) : liveMix next l 0 = l := by
  apply List.ext_getElem
  · simp [liveMix, h]
  · intro i h1 h2
    simp [liveMix, List.getD_eq_getElem?_getD, List.getElem?_eq_getElem h2]
theorem liveMix_at (next : List (List Nat)) (l : List Bool) (i : Nat) (h : i < next.length) : (liveMix next l i).getD i false = l.getD i false := by
  rw [List.getD_eq_getElem?_getD, List.getElem?_eq_getElem (by rw [liveMix_length]; exact h)]
  simp [liveMix]
theorem liveMix_succ (next : List (List Nat)) (l : List Bool) (i : Nat) (_ : i < next.length) : liveMix next l (i + 1) = (liveMix next l i).set i (l.getD i false && stayB next l i) := by
  apply List.ext_getElem
  · simp [liveMix]
  · intro j h1 h2
    rw [List.getElem_set]
    simp only [liveMix, List.getElem_map, List.getElem_range]
    by_cases e : i = j
    · subst e; simp
    · have : decide (j < i + 1) = decide (j < i) := by rw [decide_eq_decide]; omega
      simp [e, this]
theorem liveMix_keep (next : List (List Nat)) (l : List Bool) (i : Nat) (h : i < next.length) (hs : (l.getD i false && !stayB next l i) = false) : liveMix next l (i + 1) = liveMix next l i := by
  rw [liveMix_succ next l i h]
  have e : (l.getD i false && stayB next l i) = (liveMix next l i).getD i false := by
    rw [liveMix_at next l i h]
    cases h1 : l.getD i false <;> cases h2 : stayB next l i <;> simp_all
  rw [e]
  apply List.ext_getElem
  · simp
  · intro j h1 h2
    rw [List.getElem_set]
    by_cases e : i = j
    · subst e
      simp [List.getD_eq_getElem?_getD, List.getElem?_eq_getElem h2]
    · simp [e]

/-- has one of the first i places gone? -/
def goneL (next : List (List Nat)) (l : List Bool) (i : Nat) : Bool := (List.range i).any fun j => l.getD j false && !stayB next l j
theorem goneL_succ (next : List (List Nat)) (l : List Bool) (i : Nat) : goneL next l (i + 1) = (goneL next l i || (l.getD i false && !stayB next l i)) := by simp [goneL, List.range_succ]
theorem live_still {next : List (List Nat)} {l : List Bool} (h : l.length = next.length) (hg : goneL next l next.length = false) : liveStep next l = l := by
  apply List.ext_getElem
  · simp [liveStep, liveMix, h]
  · intro i h1 h2
    simp only [liveStep, liveMix, List.getElem_map, List.getElem_range]
    have hi : i < next.length := by omega
    have hh : (l.getD i false && !stayB next l i) = false := by
      unfold goneL at hg
      rw [List.any_eq_false] at hg
      simpa using hg i (by simpa using hi)
    have e : l.getD i false = l[i] := by simp [List.getD_eq_getElem?_getD, List.getElem?_eq_getElem h2]
    rw [e] at hh ⊢
    cases h1 : l[i] <;> cases h2 : stayB next l i <;> simp_all
/-- how many are left -/
def cntT (l : List Bool) : Nat := (l.map fun b => if b = true then 1 else 0).sum
theorem cntT_le (l : List Bool) : cntT l ≤ l.length := by
  unfold cntT
  induction l with
  | nil => simp
  | cons a l ih => cases a <;> simp <;> omega
theorem cntT_mono : ∀ {l l' : List Bool}, l.length = l'.length → (∀ j, l'.getD j false = true → l.getD j false = true) → cntT l' ≤ cntT l
  | [], [], _, _ => Nat.le_refl _
  | [], _ :: _, h, _ => by simp at h
  | _ :: _, [], h, _ => by simp at h
  | b :: l, b' :: l', hl, hle => by
    have := cntT_mono (l := l) (l' := l') (by simpa using hl) (fun j hj => by simpa using hle (j + 1) (by simpa using hj))
    have h0 : b' = true → b = true := by simpa using hle 0
    simp only [cntT, List.map_cons, List.sum_cons] at this ⊢
    cases b <;> cases b' <;> simp_all <;> omega
theorem cntT_lt : ∀ {l l' : List Bool} {i : Nat}, l.length = l'.length → (∀ j, l'.getD j false = true → l.getD j false = true) → l.getD i false = true → l'.getD i false = false → cntT l' < cntT l
  | [], _, _, _, _, h, _ => by simp at h
  | a :: l, [], _, h, _, _, _ => by simp at h
  | a :: l, a' :: l', i, hl, hle, h1, h2 => by
    have hl' : l.length = l'.length := by simpa using hl
    have hle' : ∀ j, l'.getD j false = true → l.getD j false = true := fun j hj => by simpa using hle (j + 1) (by simpa using hj)
    have h0 : a' = true → a = true := by simpa using hle 0
    have hc := cntT_mono hl' hle'
    cases i with
    | zero =>
      have e1 : a = true := by simpa using h1
      have e2 : a' = false := by simpa using h2
      subst e1 e2
      simp only [cntT, List.map_cons, List.sum_cons] at hc ⊢
      simp
      omega
    | succ i =>
      have := cntT_lt hl' hle' (by simpa using h1) (by simpa using h2)
      simp only [cntT, List.map_cons, List.sum_cons] at this ⊢
      cases a <;> cases a' <;> simp_all <;> omega
theorem live_less {next : List (List Nat)} {l : List Bool} (h : l.length = next.length) (hg : goneL next l next.length = true) : cntT (liveStep next l) < cntT l := by
  unfold goneL at hg
  rw [List.any_eq_true] at hg
  obtain ⟨i, hi, hh⟩ := hg
  have hi' : i < next.length := by simpa using hi
  simp only [Bool.and_eq_true, Bool.not_eq_true'] at hh
  have hget : ∀ j, (liveStep next l).getD j false = (l.getD j false && (stayB next l j && decide (j < next.length))) := by
    intro j
    by_cases hj : j < next.length
    · rw [List.getD_eq_getElem?_getD, List.getElem?_eq_getElem (by simpa [liveStep, liveMix] using hj)]
      simp [liveStep, liveMix, hj]
    · rw [List.getD_eq_getElem?_getD, List.getElem?_eq_none (by simp [liveStep, liveMix]; omega)]
      simp [hj]
  refine cntT_lt (i := i) (by simp [liveStep, liveMix, h]) (fun j hj => ?_) hh.1 ?_
  · rw [hget] at hj
    simp only [Bool.and_eq_true] at hj
    exact hj.1
  · rw [hget, hh.2]; simp

/-- so many steps -/
def liveN (next : List (List Nat)) : Nat → List Bool
  | 0 => List.replicate next.length true
  | k + 1 => liveStep next (liveN next k)
theorem liveN_length (next : List (List Nat)) : ∀ k, (liveN next k).length = next.length
  | 0 => by simp [liveN]
  | k + 1 => by simp [liveN, liveStep, liveMix]
theorem liveN_still {next : List (List Nat)} {k : Nat} (h : liveStep next (liveN next k) = liveN next k) : ∀ j, liveN next (k + j) = liveN next k
  | 0 => rfl
  | j + 1 => by rw [← Nat.add_assoc, liveN, liveN_still h j, h]
/-- the lively places -/
def livelyL (next : List (List Nat)) : List Bool := liveN next next.length
theorem livelyL_of {next : List (List Nat)} {k : Nat} (hk : cntT (liveN next k) + k ≤ next.length) (hg : goneL next (liveN next k) next.length = false) : liveN next k = livelyL next := by
  have := liveN_still (live_still (liveN_length next k) hg) (next.length - k)
  rw [show k + (next.length - k) = next.length by omega] at this
  exact this.symm
end Go.Cm

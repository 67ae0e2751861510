/- Plain laws: paths between vertices, and the sets of vertices that reach each other. No dump is imported. -/
import Derived.Test.YtihidaeecfbngaaArcMath
namespace Go.Mx
open Go

/-- between which vertices there are paths by way of vertices below k -/
def warF (M : Nat → Nat → Bool) : Nat → Nat → Nat → Bool
  | 0, i, j => M i j
  | k + 1, i, j => warF M k i j || (warF M k i k && warF M k k j)
theorem war_to (M : Nat → Nat → Bool) (k i : Nat) : warF M (k + 1) i k = warF M k i k := by
  simp only [warF]; cases warF M k i k <;> simp
theorem war_from (M : Nat → Nat → Bool) (k j : Nat) : warF M (k + 1) k j = warF M k k j := by
  simp only [warF]; cases warF M k k j <;> simp
theorem war_mono (M : Nat → Nat → Bool) (k i j : Nat) (h : warF M k i j = true) : warF M (k + 1) i j = true := by simp [warF, h]
theorem war_trans (M : Nat → Nat → Bool) : ∀ (k x i j : Nat), x < k → warF M k i x = true → warF M k x j = true → warF M k i j = true
  | k + 1, x, i, j, hx, h1, h2 => by
    by_cases e : x = k
    · subst e
      rw [war_to] at h1
      rw [war_from] at h2
      simp [warF, h1, h2]
    · have IH := fun i j => war_trans M k x i j (by omega)
      simp only [warF, Bool.or_eq_true, Bool.and_eq_true] at h1 h2 ⊢
      rcases h1 with h1 | ⟨h1, h1'⟩ <;> rcases h2 with h2 | ⟨h2, h2'⟩
      · exact .inl (IH i j h1 h2)
      · exact .inr ⟨IH i k h1 h2, h2'⟩
      · exact .inr ⟨h1, IH k j h1' h2⟩
      · exact .inr ⟨h1, h2'⟩
theorem war_first (M : Nat → Nat → Bool) : ∀ (k i j : Nat), warF M k i j = true → ∃ x, M i x = true ∧ (x = j ∨ warF M k x j = true)
  | 0, i, j, h => ⟨j, h, .inl rfl⟩
  | k + 1, i, j, h => by
    simp only [warF, Bool.or_eq_true, Bool.and_eq_true] at h
    rcases h with h | ⟨h1, h2⟩
    · obtain ⟨x, hx, hy⟩ := war_first M k i j h
      exact ⟨x, hx, hy.imp id fun h => war_mono M k x j h⟩
    · obtain ⟨x, hx, hy⟩ := war_first M k i k h1
      refine ⟨x, hx, .inr ?_⟩
      rcases hy with rfl | hy
      · exact war_mono M x x j h2
      · simp [warF, hy, h2]
theorem war_base (M : Nat → Nat → Bool) (i j : Nat) (h : M i j = true) : ∀ k, warF M k i j = true
  | 0 => h
  | k + 1 => war_mono M k i j (war_base M i j h k)

def b2i (b : Bool) : Int := if b = true then 1 else 0
/-- in place: stage k, the entries before (i, j) done -/
def warTo (M : Nat → Nat → Bool) (k i j p q : Nat) : Int := b2i (if doneB i j p q = true then warF M (k + 1) p q else warF M k p q)
theorem warTo_start (M : Nat → Nat → Bool) (n k : Nat) : tabF n n (warTo M k 0 0) = tabF n n fun p q => b2i (warF M k p q) := by
  apply tabF_congr
  intro p q _ _
  have h : doneB 0 0 p q = false := by simp [doneB]
  unfold warTo; rw [h]; rfl
theorem warTo_set (M : Nat → Nat → Bool) (n k i j : Nat) (hi : i < n) : setM (tabF n n (warTo M k i j)) i j (b2i (warF M (k + 1) i j)) = tabF n n (warTo M k i (j + 1)) := by
  rw [setM_tabF _ _ _ _ _ hi]
  apply tabF_congr
  intro p q _ _
  unfold updF warTo
  rw [doneB_succ]
  by_cases e : p = i ∧ q = j
  · obtain ⟨rfl, rfl⟩ := e
    simp
  · have e2 : (decide (p = i) && decide (q = j)) = false := by
      by_cases e1 : p = i
      · have : q ≠ j := fun e2 => e ⟨e1, e2⟩
        simp [this]
      · simp [e1]
    rw [if_neg e, e2, Bool.or_false]
theorem warTo_row (M : Nat → Nat → Bool) (n k i : Nat) : tabF n n (warTo M k i n) = tabF n n (warTo M k (i + 1) 0) := by
  apply tabF_congr
  intro p q _ hq
  have h : doneB i n p q = doneB (i + 1) 0 p q := by rw [Bool.eq_iff_iff]; simp [doneB]; omega
  unfold warTo; rw [h]
theorem warTo_next (M : Nat → Nat → Bool) (n k : Nat) : tabF n n (warTo M k n 0) = tabF n n (warTo M (k + 1) 0 0) := by
  rw [warTo_start]
  apply tabF_congr
  intro p q hp _
  have h : doneB n 0 p q = true := by simp [doneB]; omega
  unfold warTo; rw [h]; rfl
theorem warTo_at (M : Nat → Nat → Bool) (n k i j : Nat) (hi : i < n) (hj : j < n) : ((tabF n n (warTo M k i j)).getD i []).getD j 0 = b2i (warF M k i j) := by
  have h : doneB i j i j = false := by simp [doneB]
  rw [tabF_at _ _ _ _ _ hi hj]; unfold warTo; rw [h]; rfl
theorem warTo_to (M : Nat → Nat → Bool) (n k i j : Nat) (hi : i < n) (hk : k < n) : ((tabF n n (warTo M k i j)).getD i []).getD k 0 = b2i (warF M k i k) := by
  rw [tabF_at _ _ _ _ _ hi hk]; unfold warTo; rw [war_to]; split <;> rfl
theorem warTo_from (M : Nat → Nat → Bool) (n k i j : Nat) (hk : k < n) (hj : j < n) : ((tabF n n (warTo M k i j)).getD k []).getD j 0 = b2i (warF M k k j) := by
  rw [tabF_at _ _ _ _ _ hk hj]; unfold warTo; rw [war_from]; split <;> rfl
def arcB (m : List (List Int)) (i j : Nat) : Bool := decide (0 < at2 m i j)
def reachB (m : List (List Int)) (i j : Nat) : Bool := warF (arcB m) m.length i j
def reachM (m : List (List Int)) : List (List Int) := tabF m.length m.length fun i j => b2i (reachB m i j)

/-! ### components -/
def eqB (m : List (List Int)) (i j : Nat) : Bool := reachB m i j && reachB m j i
theorem eqB_symm (m : List (List Int)) (i j : Nat) : eqB m i j = eqB m j i := by unfold eqB; rw [Bool.and_comm]
theorem eqB_trans (m : List (List Int)) (i x j : Nat) (hx : x < m.length) (h1 : eqB m i x = true) (h2 : eqB m x j = true) : eqB m i j = true := by
  unfold eqB at *
  simp only [Bool.and_eq_true] at *
  exact ⟨war_trans _ _ x i j hx h1.1 h2.1, war_trans _ _ x j i hx h2.2 h1.2⟩
def partOf (m : List (List Int)) (i k : Nat) : List Int := ((List.range k).filter fun j => eqB m i j).map fun j : Nat => (j : Int)
theorem partOf_zero (m : List (List Int)) (i : Nat) : partOf m i 0 = [] := rfl
theorem partOf_yes (m : List (List Int)) (i k : Nat) (h : eqB m i k = true) : partOf m i (k + 1) = partOf m i k ++ [(k : Int)] := by
  simp [partOf, List.range_succ, List.filter_append, h]
theorem partOf_no (m : List (List Int)) (i k : Nat) (h : eqB m i k = false) : partOf m i (k + 1) = partOf m i k := by
  simp [partOf, List.range_succ, List.filter_append, h]
theorem partOf_length (m : List (List Int)) (i k : Nat) : (partOf m i k).length ≤ k := by
  unfold partOf
  rw [List.length_map]
  have := List.length_filter_le (fun j => eqB m i j) (List.range k)
  rwa [List.length_range] at this
/-- i is the least vertex of its component -/
def headB (m : List (List Int)) (i : Nat) : Bool := eqB m i i && (List.range i).all fun q => !eqB m q i
def seenB (m : List (List Int)) (i j : Nat) : Bool := (List.range i).any fun q => eqB m q j
theorem seenB_succ (m : List (List Int)) (i j : Nat) : seenB m (i + 1) j = (seenB m i j || eqB m i j) := by simp [seenB, List.range_succ]
theorem headB_of (m : List (List Int)) (i : Nat) : headB m i = (!seenB m i i && reachB m i i) := by
  unfold headB seenB
  have e : eqB m i i = reachB m i i := by unfold eqB; simp
  rw [e, List.not_any_eq_all_not, Bool.and_comm]
/-- what is seen of a vertex that is seen, is seen -/
theorem seenB_seen (m : List (List Int)) (i j : Nat) (h : seenB m i i = true) (h2 : i < m.length) : seenB m (i + 1) j = seenB m i j := by
  rw [seenB_succ]
  cases hj : eqB m i j with
  | false => simp
  | true =>
    unfold seenB at h ⊢
    rw [List.any_eq_true] at h
    obtain ⟨q, hq, he⟩ := h
    have : (List.range i).any (fun q => eqB m q j) = true := by
      rw [List.any_eq_true]
      exact ⟨q, hq, eqB_trans m q i j h2 he hj⟩
    rw [this]; rfl
theorem seenB_off (m : List (List Int)) (i j : Nat) (h : reachB m i i = false) (h2 : j < m.length) : seenB m (i + 1) j = seenB m i j := by
  rw [seenB_succ]
  cases hj : eqB m i j with
  | false => simp
  | true =>
    have h3 := eqB_trans m i j i h2 hj (by rw [eqB_symm]; exact hj)
    unfold eqB at h3
    rw [h] at h3
    simp at h3
def compTo (m : List (List Int)) (i : Nat) : List (List Int) := (List.range i).flatMap fun p => if headB m p = true then [partOf m p m.length] else []
theorem compTo_yes (m : List (List Int)) (i : Nat) (h : headB m i = true) : compTo m (i + 1) = compTo m i ++ [partOf m i m.length] := by simp [compTo, List.range_succ, h]
theorem compTo_no (m : List (List Int)) (i : Nat) (h : headB m i = false) : compTo m (i + 1) = compTo m i := by simp [compTo, List.range_succ, h]
def compL (m : List (List Int)) : List (List Int) := compTo m m.length
theorem compTo_length (m : List (List Int)) : ∀ i, (compTo m i).length ≤ i
  | 0 => by simp [compTo]
  | i + 1 => by
    have := compTo_length m i
    cases h : headB m i with
    | true => rw [compTo_yes m i h, List.length_append, List.length_singleton]; omega
    | false => rw [compTo_no m i h]; omega
/-- the head of what is filtered -/
theorem filter_head (p : Nat → Bool) (i : Nat) : ∀ k, i < k → p i = true → ((List.range i).all fun q => !p q) = true → (((List.range k).filter p).map fun j : Nat => (j : Int)).getD 0 (-1) = (i : Int)
  | 0, h, _, _ => by omega
  | k + 1, hk, hp, ha => by
    by_cases e : i = k
    · subst e
      have hn : (List.range i).filter p = [] := by
        rw [List.filter_eq_nil_iff]
        intro q hq
        have := List.all_eq_true.1 ha q hq
        simpa using this
      rw [List.range_succ, List.filter_append, hn]
      simp [hp]
    · have ih := filter_head p i k (by omega) hp ha
      rw [List.range_succ, List.filter_append, List.map_append]
      rw [List.getD_eq_getElem?_getD] at ih ⊢
      cases hl : ((List.range k).filter p).map fun j : Nat => (j : Int) with
      | nil => rw [hl] at ih; simp at ih
      | cons x l => rw [hl] at ih; simpa using ih
theorem filter_other (p : Nat → Bool) (i : Nat) (h : p i = false ∨ ∃ q, q < i ∧ p q = true) : ∀ k, (((List.range k).filter p).map fun j : Nat => (j : Int)).getD 0 (-1) ≠ (i : Int)
  | 0 => by simp
  | k + 1 => by
    have ih := filter_other p i h k
    rw [List.range_succ, List.filter_append, List.map_append]
    rw [List.getD_eq_getElem?_getD] at ih ⊢
    cases hl : ((List.range k).filter p).map fun j : Nat => (j : Int) with
    | cons x l => rw [hl] at ih; simpa using ih
    | nil =>
      by_cases hk : p k = true
      · simp [hk]
        intro e
        have e : k = i := by omega
        subst e
        rcases h with h | ⟨q, hq, hpq⟩
        · rw [h] at hk; cases hk
        · have hl2 : (List.range k).filter p = [] := by simpa using hl
          rw [List.filter_eq_nil_iff] at hl2
          exact hl2 q (List.mem_range.2 hq) hpq
      · simp [hk]
theorem partOf_head (m : List (List Int)) (i : Nat) (hi : i < m.length) : headB m i = (decide (0 < (partOf m i m.length).length) && decide ((partOf m i m.length).getD 0 (-1) = (i : Int))) := by
  cases h : headB m i with
  | true =>
    have h2 := h
    simp only [headB, Bool.and_eq_true] at h2
    have h3 := filter_head (fun j => eqB m i j) i m.length hi h2.1 (by
      refine List.all_eq_true.2 ?_
      intro q hq
      rw [eqB_symm]
      exact List.all_eq_true.1 h2.2 q hq)
    have h4 : (partOf m i m.length).getD 0 (-1) = (i : Int) := h3
    have h5 : 0 < (partOf m i m.length).length := by
      rcases Nat.eq_zero_or_pos (partOf m i m.length).length with h0 | h0
      · rw [List.eq_nil_of_length_eq_zero h0] at h4; simp at h4
      · exact h0
    rw [h4, decide_eq_true h5]
    simp
  | false =>
    have h3 : (partOf m i m.length).getD 0 (-1) ≠ (i : Int) := by
      apply filter_other
      unfold headB at h
      rw [Bool.and_eq_false_iff, List.all_eq_false] at h
      rcases h with h | ⟨q, hq, h⟩
      · exact .inl h
      · refine .inr ⟨q, List.mem_range.1 hq, ?_⟩
        simp at h
        rw [eqB_symm]; exact h
    rw [decide_eq_false h3, Bool.and_false]

/-! ### a component is light -/
/-- the program: no row of a component adds up to more than 1 -/
def lightP (m : List (List Int)) : Bool := (compL m).all fun l => (partL m l).all fun r => decide (r.sum ≤ 1)
/-- the reference: each component's sum is its size -/
def lightR (m : List (List Int)) : Bool := (compL m).all fun l => decide (sumM (partL m l) = (l.length : Int))
theorem mem_partOf (m : List (List Int)) (i k : Nat) (x : Int) : x ∈ partOf m i k ↔ ∃ j : Nat, x = (j : Int) ∧ j < k ∧ eqB m i j = true := by
  simp only [partOf, List.mem_map, List.mem_filter, List.mem_range]
  constructor
  · rintro ⟨j, ⟨h1, h2⟩, rfl⟩; exact ⟨j, rfl, h1, h2⟩
  · rintro ⟨j, rfl, h1, h2⟩; exact ⟨j, ⟨h1, h2⟩, rfl⟩
theorem sum_ge_mem {l : List Int} (h : ∀ x ∈ l, 0 ≤ x) {y : Int} (hy : y ∈ l) : y ≤ l.sum := by
  induction l with
  | nil => cases hy
  | cons a l ih =>
    have h0 : 0 ≤ l.sum := by
      clear ih hy
      induction l with
      | nil => simp
      | cons b l ih2 =>
        have := ih2 (fun x hx => h x (by rcases List.mem_cons.1 hx with rfl | hx <;> simp_all))
        have := h b (by simp)
        simp only [List.sum_cons]; omega
    have ha := h a (by simp)
    simp only [List.sum_cons]
    rcases List.mem_cons.1 hy with rfl | hy
    · omega
    · have := ih (fun x hx => h x (List.mem_cons_of_mem _ hx)) hy
      omega
/-- each vertex of a component has an arc into it -/
theorem comp_row_pos {m : List (List Int)} (hm : ∀ i j, 0 ≤ at2 m i j) (hn : ∀ i j, ¬ (i < m.length ∧ j < m.length) → at2 m i j = 0) {i : Nat} {x : Int} (hx : x ∈ partOf m i m.length) : 1 ≤ ((partOf m i m.length).map fun j => (m.getD x.toNat []).getD j.toNat 0).sum := by
  obtain ⟨a, rfl, ha, he⟩ := (mem_partOf m i m.length _).1 hx
  have haa := eqB_trans m a i a (by
    by_cases hi : i < m.length
    · exact hi
    · exfalso
      unfold eqB at he
      simp only [Bool.and_eq_true] at he
      obtain ⟨y, hy, _⟩ := war_first _ _ _ _ he.1
      unfold arcB at hy
      rw [hn i y (by omega)] at hy
      simp at hy) (by rw [eqB_symm]; exact he) he
  unfold eqB at haa
  simp only [Bool.and_eq_true] at haa
  obtain ⟨y, hy, hz⟩ := war_first _ _ _ _ haa.1
  have hyl : y < m.length := by
    by_cases h : y < m.length
    · exact h
    · unfold arcB at hy
      rw [hn a y (by omega)] at hy
      simp at hy
  have hay : eqB m a y = true := by
    unfold eqB
    rw [Bool.and_eq_true]
    refine ⟨war_base _ _ _ hy _, ?_⟩
    rcases hz with rfl | hz
    · exact haa.1
    · exact hz
  have hiy := eqB_trans m i a y ha he hay
  have hmem : (m.getD ((a : Int)).toNat []).getD ((y : Int)).toNat 0 ∈ (partOf m i m.length).map fun j => (m.getD ((a : Int)).toNat []).getD j.toNat 0 :=
    List.mem_map_of_mem ((mem_partOf m i m.length _).2 ⟨y, rfl, hyl, hiy⟩)
  have h1 := sum_ge_mem (fun z hz => by
    rw [List.mem_map] at hz
    obtain ⟨j, _, e⟩ := hz
    rw [← e]; exact hm _ _) hmem
  have h2 : 1 ≤ (m.getD ((a : Int)).toNat []).getD ((y : Int)).toNat 0 := by
    unfold arcB at hy
    have : 0 < at2 m a y := by simpa using hy
    have e1 : ((a : Nat) : Int).toNat = a := by omega
    have e2 : ((y : Nat) : Int).toNat = y := by omega
    rw [e1, e2]
    unfold at2 at this
    omega
  omega
theorem sumM_map (t : List (List Int)) : sumM t = (t.map List.sum).sum := by
  unfold sumM sumTo
  congr 1
  apply List.ext_getElem
  · simp
  · intro i h1 h2
    simp at h1
    simp [List.getD_eq_getElem?_getD, List.getElem?_eq_getElem h1]
theorem all_one_iff : ∀ (l : List (List Int)), (∀ r ∈ l, 1 ≤ r.sum) → ((l.all fun r => decide (r.sum ≤ 1)) = decide ((l.map List.sum).sum = (l.length : Int)) ∧ (l.length : Int) ≤ (l.map List.sum).sum)
  | [], _ => by simp
  | r :: l, h => by
    obtain ⟨h1, h2⟩ := all_one_iff l fun x hx => h x (List.mem_cons_of_mem _ hx)
    have h3 := h r (by simp)
    simp only [List.all_cons, List.map_cons, List.sum_cons, List.length_cons, h1]
    refine ⟨?_, by omega⟩
    rw [Bool.eq_iff_iff]; simp; omega
theorem compL_mem {m : List (List Int)} {l : List Int} (h : l ∈ compL m) : ∃ i, i < m.length ∧ headB m i = true ∧ l = partOf m i m.length := by
  simp only [compL, compTo, List.mem_flatMap, List.mem_range] at h
  obtain ⟨i, hi, h⟩ := h
  split at h
  · next hh => exact ⟨i, hi, hh, by simpa using h⟩
  · simp at h
theorem light_same {m : List (List Int)} (hm : ∀ i j, 0 ≤ at2 m i j) (hn : ∀ i j, ¬ (i < m.length ∧ j < m.length) → at2 m i j = 0) : lightP m = lightR m := by
  unfold lightP lightR
  rw [Bool.eq_iff_iff, List.all_eq_true, List.all_eq_true]
  have key : ∀ l ∈ compL m, ((partL m l).all fun r => decide (r.sum ≤ 1)) = decide (sumM (partL m l) = (l.length : Int)) := by
    intro l hl
    obtain ⟨i, hi, _, rfl⟩ := compL_mem hl
    have := (all_one_iff (partL m (partOf m i m.length)) (by
      intro r hr
      simp only [partL, List.mem_map] at hr
      obtain ⟨x, hx, rfl⟩ := hr
      exact comp_row_pos hm hn hx)).1
    rw [this, sumM_map, partL_length]
  constructor
  · intro h l hl; rw [← key l hl]; exact h l hl
  · intro h l hl; rw [key l hl]; exact h l hl
end Go.Mx

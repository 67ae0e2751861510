/- Plain laws: words put in their place, sorted lists. No dump is imported. -/
import Derived.Test.YtgbbidlbdjbilaaPkB
import Derived.Test.YtgbbidlbdjbilaaHedMath
namespace Go.Cm
open Go

theorem lessW_iff : ∀ (a b : List UInt8), lessW a b = true ↔ a < b
  | a, [] => by
    have : lessW a [] = false := by cases a <;> rfl
    rw [this]
    simp
  | [], b :: y => by
    have : lessW [] (b :: y) = true := rfl
    rw [this]
    simp
  | a :: x, b :: y => by
    have h : lessW (a :: x) (b :: y) = (decide (a < b) || (a == b && lessW x y)) := rfl
    rw [h, List.cons_lt_cons_iff, Bool.or_eq_true, Bool.and_eq_true, lessW_iff x y, decide_eq_true_iff, beq_iff_eq]
/-- a word put in its place -/
def putR (x : List UInt8) : List (List UInt8) → List (List UInt8)
  | [] => [x]
  | y :: l => if y < x then y :: putR x l else if y = x then y :: l else x :: y :: l
theorem putR_mem {x z : List UInt8} : ∀ {l : List (List UInt8)}, z ∈ putR x l → z = x ∨ z ∈ l
  | [], h => by simpa [putR] using h
  | y :: l, h => by
    unfold putR at h
    by_cases h1 : y < x
    · rw [if_pos h1] at h
      rcases List.mem_cons.1 h with rfl | h
      · exact .inr List.mem_cons_self
      · rcases putR_mem h with h | h
        · exact .inl h
        · exact .inr (List.mem_cons_of_mem _ h)
    · rw [if_neg h1] at h
      by_cases h2 : y = x
      · rw [if_pos h2] at h; exact .inr h
      · rw [if_neg h2] at h
        exact List.mem_cons.1 h
def Asc (l : List (List UInt8)) : Prop := l.Pairwise (· < ·)
theorem putR_asc (x : List UInt8) : ∀ {l : List (List UInt8)}, Asc l → Asc (putR x l)
  | [], _ => List.pairwise_singleton _ _
  | y :: l, h => by
    obtain ⟨h1, h2⟩ := List.pairwise_cons.1 h
    unfold putR
    by_cases hy : y < x
    · rw [if_pos hy]
      refine List.pairwise_cons.2 ⟨fun z hz => ?_, putR_asc x h2⟩
      rcases putR_mem hz with rfl | hz
      · exact hy
      · exact h1 z hz
    · rw [if_neg hy]
      by_cases h3 : y = x
      · rw [if_pos h3]; exact h
      · rw [if_neg h3]
        have hx : x < y := by
          rcases Std.lt_trichotomy x y with h | h | h
          · exact h
          · exact absurd h.symm h3
          · exact absurd h hy
        refine List.pairwise_cons.2 ⟨fun z hz => ?_, h⟩
        rcases List.mem_cons.1 hz with rfl | hz
        · exact hx
        · exact List.lt_trans hx (h1 z hz)
theorem putR_perm {x : List UInt8} : ∀ {l : List (List UInt8)}, ¬ x ∈ l → (putR x l).Perm (x :: l)
  | [], _ => List.Perm.refl _
  | y :: l, h => by
    unfold putR
    by_cases hy : y < x
    · rw [if_pos hy]
      exact ((putR_perm (fun h' => h (List.mem_cons_of_mem _ h'))).cons y).trans (List.Perm.swap _ _ _)
    · rw [if_neg hy, if_neg (fun e => h (by rw [e]; exact List.mem_cons_self))]
theorem putR_old {x : List UInt8} : ∀ {l : List (List UInt8)}, Asc l → x ∈ l → putR x l = l
  | [], _, h => by cases h
  | y :: l, ha, h => by
    obtain ⟨h1, h2⟩ := List.pairwise_cons.1 ha
    unfold putR
    rcases List.mem_cons.1 h with rfl | h
    · rw [if_neg (List.lt_irrefl _), if_pos rfl]
    · rw [if_pos (h1 x h), putR_old h2 h]
/-- as the reference writes it -/
theorem putR_at {x : List UInt8} : ∀ {l : List (List UInt8)} {i : Nat}, i ≤ l.length → (∀ j, j < i → lessW (l.getD j []) x = true) → (i = l.length ∨ lessW (l.getD i []) x = false) →
    putR x l = if i < l.length ∧ l.getD i [] = x then l else l.take i ++ x :: l.drop i
  | [], i, hi, _, _ => by
    have h0 : i = 0 := by simpa using hi
    subst h0
    rfl
  | y :: l, 0, _, _, h => by
    have h : ¬ y < x := by
      rcases h with h | h
      · simp at h
      · intro hy
        have := (lessW_iff y x).2 hy
        rw [List.getD_cons_zero, this] at h
        cases h
    unfold putR
    rw [if_neg h]
    simp
  | y :: l, i + 1, hi, h1, h2 => by
    have hy : y < x := (lessW_iff y x).1 (h1 0 (by omega))
    have := putR_at (x := x) (l := l) (i := i) (by simpa using hi) (fun j hj => by simpa using h1 (j + 1) (by omega)) (by
      rcases h2 with h2 | h2
      · left; simpa using h2
      · right; simpa using h2)
    show (if y < x then y :: putR x l else if y = x then y :: l else x :: y :: l) = _
    rw [if_pos hy, this]
    by_cases hc : i < l.length ∧ l.getD i [] = x
    · rw [if_pos hc, if_pos (by simpa using hc)]
    · rw [if_neg hc, if_neg (by simpa using hc)]
      simp
/-- words put in their places one by one -/
def putsR (cs : List (List UInt8)) : List (List UInt8) := cs.foldl (fun l x => putR x l) []
theorem putsR_snoc (cs : List (List UInt8)) (x : List UInt8) : putsR (cs ++ [x]) = putR x (putsR cs) := by
  unfold putsR
  rw [List.foldl_append]
  rfl
theorem putsR_asc (cs : List (List UInt8)) : Asc (putsR cs) := by
  have : ∀ (cs l : List (List UInt8)), Asc l → Asc (cs.foldl (fun l x => putR x l) l) := by
    intro cs
    induction cs with
    | nil => exact fun l h => h
    | cons c cs ih => exact fun l h => ih _ (putR_asc c h)
  exact this cs [] List.Pairwise.nil
theorem putsR_perm {cs : List (List UInt8)} (h : cs.Nodup) : (putsR cs).Perm cs := by
  have : ∀ (cs l : List (List UInt8)), (l ++ cs).Nodup → (cs.foldl (fun l x => putR x l) l).Perm (l ++ cs) := by
    intro cs
    induction cs with
    | nil => intro l _; rw [List.append_nil]; exact List.Perm.refl _
    | cons c cs ih =>
      intro l hn
      have hc : ¬ c ∈ l := by
        intro hm
        have := (List.nodup_append.1 hn).2.2 c hm c List.mem_cons_self
        exact this rfl
      have hp := putR_perm hc
      have hq : (putR c l ++ cs).Perm (l ++ c :: cs) := (hp.append_right cs).trans List.perm_middle.symm
      exact (ih (putR c l) (hq.symm.nodup hn)).trans hq
  have := this cs [] h
  exact this
theorem asc_le {l : List (List UInt8)} (h : Asc l) : l.Pairwise (· ≤ ·) := h.imp fun h => Std.le_of_lt h
theorem sorted_eq {a b : List (List UInt8)} (ha : a.Pairwise (· ≤ ·)) (hb : b.Pairwise (· ≤ ·)) (hp : a.Perm b) : a = b :=
  List.Perm.eq_of_pairwise (fun _ _ _ _ h1 h2 => Std.le_antisymm h1 h2) ha hb hp
theorem sort_pair (l : List (List UInt8)) : (l.mergeSort fun x y => decide (x ≤ y)).Pairwise (· ≤ ·) := by
  have h := List.pairwise_mergeSort (le := fun (x y : List UInt8) => decide (x ≤ y)) (fun a b c h1 h2 => decide_eq_true (List.le_trans (of_decide_eq_true h1) (of_decide_eq_true h2))) (fun a b => by
    rcases List.le_total a b with h | h
    · simp [h]
    · simp [h]) l
  exact h.imp fun h => of_decide_eq_true h
theorem puts_sort {cs : List (List UInt8)} (h : cs.Nodup) : (cs.mergeSort fun x y => decide (x ≤ y)) = putsR cs :=
  sorted_eq (sort_pair cs) (asc_le (putsR_asc cs)) ((List.mergeSort_perm cs _).trans (putsR_perm h).symm)

/-! ### the least forbidden words -/
def minB (F st : List (List UInt8)) (w : List UInt8) : Bool := !(hasL F st w) && (hasL F st w.tail && hasL F st (w.take (w.length - 1)))
/-- those of the words of the lengths below k, and of the first j of length k -/
def candTo (K : Nat) (F st : List (List UInt8)) (k j : Nat) : List (List UInt8) :=
  ((List.range k).flatMap fun q => if q = 0 then [] else (wordsL K q).filter (minB F st)) ++ ((wordsL K k).take j).filter (minB F st)
theorem wordsL_size {K n : Nat} {u : List UInt8} (h : u ∈ wordsL K n) : u.length = n := by
  unfold wordsL at h
  obtain ⟨i, hi, rfl⟩ := List.mem_map.1 h
  exact wordL_length K n i
theorem candTo_start (K : Nat) (F st : List (List UInt8)) : candTo K F st 1 0 = [] := by
  unfold candTo
  rw [List.take_zero, List.filter_nil, List.append_nil]
  rfl
theorem candTo_skip {K : Nat} {F st : List (List UInt8)} {k j : Nat} {u : List UInt8} (h : (wordsL K k).take (j + 1) = (wordsL K k).take j ++ [u]) (hu : minB F st u = false) : candTo K F st k (j + 1) = candTo K F st k j := by
  unfold candTo
  rw [h, List.filter_append, List.filter_cons_of_neg (by rw [hu]; simp), List.filter_nil, List.append_nil]
theorem candTo_take {K : Nat} {F st : List (List UInt8)} {k j : Nat} {u : List UInt8} (h : (wordsL K k).take (j + 1) = (wordsL K k).take j ++ [u]) (hu : minB F st u = true) : candTo K F st k (j + 1) = candTo K F st k j ++ [u] := by
  unfold candTo
  rw [h, List.filter_append, List.filter_cons_of_pos hu, List.filter_nil, List.append_assoc]
theorem candTo_row {K : Nat} {F st : List (List UInt8)} {k : Nat} (hk : 1 ≤ k) : candTo K F st k (wordsL K k).length = candTo K F st (k + 1) 0 := by
  unfold candTo
  rw [List.take_length, List.take_zero, List.filter_nil, List.append_nil, List.range_succ, List.flatMap_append, List.flatMap_cons, List.flatMap_nil, List.append_nil, if_neg (by omega)]
theorem candTo_nodup {K : Nat} (hn : ∀ n, (wordsL K n).Nodup) (F st : List (List UInt8)) (k j : Nat) : (candTo K F st k j).Nodup := by
  unfold candTo
  have hrow : ∀ k, ((List.range k).flatMap fun q => if q = 0 then [] else (wordsL K q).filter (minB F st)).Nodup ∧ ∀ w ∈ ((List.range k).flatMap fun q => if q = 0 then [] else (wordsL K q).filter (minB F st)), w.length < k := by
    intro k
    induction k with
    | zero => exact ⟨List.nodup_nil, fun w hw => by simp at hw⟩
    | succ k ih =>
      rw [List.range_succ, List.flatMap_append, List.flatMap_cons, List.flatMap_nil, List.append_nil]
      have hlast : (if k = 0 then [] else (wordsL K k).filter (minB F st)).Nodup ∧ ∀ w ∈ (if k = 0 then [] else (wordsL K k).filter (minB F st)), w.length = k := by
        by_cases h0 : k = 0
        · rw [if_pos h0]; exact ⟨List.nodup_nil, fun w hw => by cases hw⟩
        · rw [if_neg h0]; exact ⟨(hn k).filter _, fun w hw => wordsL_size (List.mem_filter.1 hw).1⟩
      refine ⟨List.nodup_append.2 ⟨ih.1, hlast.1, fun a ha b hb e => ?_⟩, fun w hw => ?_⟩
      · have h1 := ih.2 a ha
        have h2 := hlast.2 b hb
        rw [e] at h1
        omega
      · rcases List.mem_append.1 hw with hw | hw
        · have := ih.2 w hw; omega
        · have := hlast.2 w hw; omega
  refine List.nodup_append.2 ⟨(hrow k).1, ((hn k).sublist (List.take_sublist _ _)).filter _, fun a ha b hb e => ?_⟩
  have h1 := (hrow k).2 a ha
  have h2 := wordsL_size (List.mem_of_mem_take (List.mem_filter.1 hb).1)
  rw [e] at h1
  omega
theorem candTo_len {K : Nat} {F st : List (List UInt8)} {k j : Nat} : ∀ w ∈ candTo K F st k j, w.length ≤ k := by
  intro w hw
  unfold candTo at hw
  rcases List.mem_append.1 hw with hw | hw
  · obtain ⟨q, hq, hw⟩ := List.mem_flatMap.1 hw
    have hq := List.mem_range.1 hq
    by_cases h0 : q = 0
    · rw [if_pos h0] at hw; cases hw
    · rw [if_neg h0] at hw
      have := wordsL_size (List.mem_filter.1 hw).1
      omega
  · have := wordsL_size (List.mem_of_mem_take (List.mem_filter.1 hw).1)
    omega
end Go.Cm

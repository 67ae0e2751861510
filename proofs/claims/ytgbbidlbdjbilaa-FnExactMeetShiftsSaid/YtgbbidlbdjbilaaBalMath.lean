/- Words and their numbers of sources, all together. No program in sight. -/
import Derived.Test.YtgbbidlbdjbilaaPkB
namespace Go.Cm

theorem sum_set (l : List Nat) (i x : Nat) (h : i < l.length) : (l.set i (l.getD i 0 + x)).sum = l.sum + x := by
  induction l generalizing i with
  | nil => simp at h
  | cons a l ih =>
    cases i with
    | zero => simp; omega
    | succ i =>
      have := ih i (by simpa using h)
      simp only [List.getD_eq_getElem?_getD, List.set_cons_succ, List.sum_cons, List.getElem?_cons_succ] at this ⊢
      omega

/-- what one pair adds to the sum -/
def addH (K : Nat) (o : ByteArray) (c : UInt8) (now : List Nat) (v x : Nat) : Nat := if o.data.toList.getD (v * K + x) 0 = c then now.getD v 0 else 0
theorem hitL_sum {K n : Nat} (hn : 0 < n) (o : ByteArray) (c : UInt8) (now : List Nat) (v : Nat) (nx : List Nat) (x : Nat) (hl : nx.length = n) : (hitL K n o c now v nx x).sum = nx.sum + addH K o c now v x := by
  unfold hitL addH
  split
  · exact sum_set nx _ _ (by rw [hl]; exact Nat.mod_lt _ hn)
  · omega
def addR (K : Nat) (o : ByteArray) (c : UInt8) (now : List Nat) (v a : Nat) : Nat := ((List.range a).map fun x => addH K o c now v x).sum
theorem rowH_sum {K n : Nat} (hn : 0 < n) (o : ByteArray) (c : UInt8) (now : List Nat) (v : Nat) (nx : List Nat) (hl : nx.length = n) : ∀ a, (rowH K n o c now v nx a).sum = nx.sum + addR K o c now v a
  | 0 => by simp [rowH_zero, addR]
  | a + 1 => by
    rw [rowH_succ, hitL_sum hn _ _ _ _ _ _ (by rw [rowH_length]; exact hl), rowH_sum hn o c now v nx hl a]
    simp [addR, List.range_succ]
    omega
def addA (K : Nat) (o : ByteArray) (c : UInt8) (now : List Nat) (b : Nat) : Nat := ((List.range b).map fun v => addR K o c now v K).sum
theorem allH_sum {K n : Nat} (hn : 0 < n) (o : ByteArray) (c : UInt8) (now : List Nat) : ∀ b, (allH K n o c now b).sum = addA K o c now b
  | 0 => by simp [allH_zero, addA]
  | b + 1 => by
    rw [allH_succ, rowH_sum hn o c now b _ (allH_length ..) K, allH_sum hn o c now b]
    simp [addA, List.range_succ]

/-- sums over the letters exchange -/
theorem sum_add {α : Type} (l : List α) (f g : α → Nat) : (l.map fun y => f y + g y).sum = (l.map f).sum + (l.map g).sum := by
  induction l with
  | nil => rfl
  | cons a l ih => simp only [List.map_cons, List.sum_cons, ih]; omega
theorem sum_mul {α : Type} (l : List α) (f : α → Nat) (k : Nat) : (l.map fun y => f y * k).sum = (l.map f).sum * k := by
  induction l with
  | nil => simp
  | cons a l ih => simp only [List.map_cons, List.sum_cons, ih, Nat.add_mul]
theorem sum_swap {α β : Type} (l : List α) (m : List β) (f : α → β → Nat) : (l.map fun y => (m.map fun x => f y x).sum).sum = (m.map fun x => (l.map fun y => f y x).sum).sum := by
  induction l with
  | nil => simp [List.map_const']
  | cons a l ih => simp only [List.map_cons, List.sum_cons, ih, sum_add]
theorem sum_ext {α : Type} (l : List α) (f g : α → Nat) (h : ∀ y ∈ l, f y = g y) : (l.map f).sum = (l.map g).sum := by
  rw [List.map_congr_left h]

theorem letN_inj {x y : Nat} (hx : x < 3) (hy : y < 3) (h : letN x = letN y) : x = y := by
  match x, y, hx, hy with
  | 0, 0, _, _ => rfl
  | 1, 1, _, _ => rfl
  | 2, 2, _, _ => rfl
  | 0, 1, _, _ => exact absurd h (by decide)
  | 0, 2, _, _ => exact absurd h (by decide)
  | 1, 0, _, _ => exact absurd h (by decide)
  | 1, 2, _, _ => exact absurd h (by decide)
  | 2, 0, _, _ => exact absurd h (by decide)
  | 2, 1, _, _ => exact absurd h (by decide)
theorem isLet_letN {K : Nat} (hK : K ≤ 3) {c : UInt8} (h : isLet K c = true) : ∃ y, y < K ∧ c = letN y := by
  simp only [isLet, Bool.and_eq_true, decide_eq_true_eq] at h
  refine ⟨c.toNat - 97, by omega, ?_⟩
  apply UInt8.toNat_inj.1
  have := ofNat_toNat (n := 97 + (c.toNat - 97)) (by omega)
  unfold letN
  omega
/-- just one letter is hit -/
theorem one_letter {K : Nat} (hK : K ≤ 3) {c : UInt8} (h : isLet K c = true) (q : Nat) : ((List.range K).map fun y => if c = letN y then q else 0).sum = q := by
  obtain ⟨z, hz, rfl⟩ := isLet_letN hK h
  have e : ((List.range K).map fun y => if letN z = letN y then q else 0) = (List.range K).map fun y => if z = y then q else 0 := by
    apply List.map_congr_left
    intro y hy
    have hy' : y < K := by simpa using hy
    by_cases hzy : z = y
    · simp [hzy]
    · rw [if_neg hzy, if_neg (fun h => hzy (letN_inj (by omega) (by omega) h))]
  rw [e]
  clear e h
  have : ∀ K, ((List.range K).map fun y => if z = y then q else 0).sum = if z < K then q else 0 := by
    intro K
    induction K with
    | zero => simp
    | succ K ih =>
      rw [List.range_succ, List.map_append, List.sum_append, ih]
      by_cases h1 : z < K
      · rw [if_pos h1, if_pos (by omega)]
        simp
        omega
      · by_cases h2 : z = K
        · subst h2; simp
        · rw [if_neg h1, if_neg (by omega)]
          simp
          omega
  rw [this K, if_pos hz]

theorem sum_getD (l : List Nat) : ((List.range l.length).map fun v => l.getD v 0).sum = l.sum := by
  congr 1
  apply List.ext_getElem
  · simp
  · intro i h1 h2
    have : i < l.length := by simpa using h1
    simp [List.getD_eq_getElem?_getD, List.getElem?_eq_getElem this]

/-- The letters together: each source goes on in K ways. -/
theorem step_sum {K n : Nat} (hn : 0 < n) (hK : K ≤ 3) (o : ByteArray) (hos : o.size = n * K) (hoa : areLet K o.data.toList = true) (now : List Nat) (hl : now.length = n) :
    ((List.range K).map fun y => (stepC K n o now (letN y)).sum).sum = now.sum * K := by
  have e1 : ∀ y ∈ List.range K, (stepC K n o now (letN y)).sum = addA K o (letN y) now n := fun y _ => allH_sum hn o _ now n
  rw [sum_ext _ _ _ e1]
  unfold addA
  rw [sum_swap]
  have e2 : ∀ v ∈ List.range n, ((List.range K).map fun y => addR K o (letN y) now v K).sum = now.getD v 0 * K := by
    intro v hv
    have hv' : v < n := by simpa using hv
    unfold addR
    rw [sum_swap]
    have e3 : ∀ x ∈ List.range K, ((List.range K).map fun y => addH K o (letN y) now v x).sum = now.getD v 0 := by
      intro x hx
      have hx' : x < K := by simpa using hx
      unfold addH
      refine one_letter hK (isLet_getD hoa ?_) _
      have h1 : (v + 1) * K ≤ n * K := Nat.mul_le_mul_right K hv'
      rw [Nat.succ_mul] at h1
      have h2 : o.data.toList.length = o.size := by simp
      omega
    rw [sum_ext _ _ _ e3]
    simp [List.map_const', List.sum_replicate_nat, Nat.mul_comm]
  rw [sum_ext _ _ _ e2, sum_mul]
  congr 1
  rw [← hl]
  exact sum_getD now

/-- All words of a length together have so many sources. -/
theorem all_sum {K n : Nat} (hn : 0 < n) (hK0 : 0 < K) (hK : K ≤ 3) (o : ByteArray) (hos : o.size = n * K) (hoa : areLet K o.data.toList = true) :
    ∀ m, ((wordsL K m).map fun u => (countC K n o u).sum).sum = K ^ m * n
  | 0 => by simp [wordsL_zero, countC, List.sum_replicate_nat]
  | m + 1 => by
    rw [wordsL_succ K m hK0, List.map_flatMap]
    have e : ∀ l : List (List UInt8), (l.flatMap fun u => (((List.range K).map fun x => u ++ [letN x]).map fun u => (countC K n o u).sum)).sum = (l.map fun u => (countC K n o u).sum).sum * K := by
      intro l
      induction l with
      | nil => simp
      | cons a l ih =>
        rw [List.flatMap_cons, List.sum_append, ih, List.map_cons, List.sum_cons, Nat.add_mul]
        congr 1
        rw [List.map_map]
        have := step_sum hn hK o hos hoa (countC K n o a) (countC_length ..)
        rw [← this]
        congr 1
        apply List.map_congr_left
        intro x _
        simp only [Function.comp, countC_snoc]
    rw [e, all_sum hn hK0 hK o hos hoa m, Nat.pow_succ]
    rw [Nat.mul_right_comm]

theorem sum_const {α : Type} (l : List α) (f : α → Nat) (q : Nat) (h : ∀ y ∈ l, f y = q) : (l.map f).sum = l.length * q := by
  rw [sum_ext l f (fun _ => q) h, List.map_const', List.sum_replicate_nat]

/-- If all words of a length have as many sources, then each has the number of ends. -/
theorem balanced_is {K n : Nat} (hn : 0 < n) (hK0 : 0 < K) (hK : K ≤ 3) (o : ByteArray) (hos : o.size = n * K) (hoa : areLet K o.data.toList = true) (m q : Nat) (h : ∀ u ∈ wordsL K m, (countC K n o u).sum = q) : q = n := by
  have h1 := all_sum hn hK0 hK o hos hoa m
  rw [sum_const _ _ q h] at h1
  have h2 : (wordsL K m).length = K ^ m := by simp [wordsL]
  rw [h2] at h1
  exact Nat.eq_of_mul_eq_mul_left (Nat.pow_pos hK0) h1
end Go.Cm

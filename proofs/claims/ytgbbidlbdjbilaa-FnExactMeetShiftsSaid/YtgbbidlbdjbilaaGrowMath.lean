/- Plain facts of counting for the theorems on words: pigeons, growth, words in two parts. No program in sight. -/
import Derived.Test.YtgbbidlbdjbilaaPkB
namespace Go.Cm

theorem inj_le {α β : Type} [DecidableEq β] (f : α → β) : ∀ (l : List α) (l2 : List β), l.Nodup → (∀ x ∈ l, f x ∈ l2) → (∀ x ∈ l, ∀ y ∈ l, f x = f y → x = y) → l.length ≤ l2.length
  | [], _, _, _, _ => by simp
  | a :: l, l2, hn, hm, hi => by
    have hn' := List.nodup_cons.1 hn
    have h1 := inj_le f l (l2.erase (f a)) hn'.2 (fun x hx => by
      have hne : f x ≠ f a := fun e => hn'.1 (hi x (by simp [hx]) a (by simp) e ▸ hx)
      exact (List.mem_erase_of_ne hne).2 (hm x (by simp [hx]))) (fun x hx y hy => hi x (by simp [hx]) y (by simp [hy]))
    have h2 : f a ∈ l2 := hm a (by simp)
    rw [List.length_erase_of_mem h2] at h1
    have h3 := List.length_pos_of_mem h2
    simp
    omega
/-- two pigeons in one hole -/
theorem pigeons {α β : Type} [DecidableEq β] (f : α → β) (l : List α) (l2 : List β) (hn : l.Nodup) (hm : ∀ x ∈ l, f x ∈ l2) (h : l2.length < l.length) : ∃ x, x ∈ l ∧ ∃ y, y ∈ l ∧ x ≠ y ∧ f x = f y := by
  apply Classical.byContradiction
  intro hno
  have := inj_le f l l2 hn hm (fun x hx y hy e => Classical.byContradiction fun hne => hno ⟨x, hx, y, hy, hne, e⟩)
  omega

theorem bernoulli (b : Nat) : ∀ k, (b + k) * b ^ k ≤ b * (b + 1) ^ k
  | 0 => by simp
  | k + 1 => by
    have h := bernoulli b k
    have h1 : (b + (k + 1)) * b ^ (k + 1) ≤ (b + k) * b ^ k * (b + 1) := by
      rw [Nat.pow_succ]
      have e1 : (b + (k + 1)) * (b ^ k * b) = ((b + (k + 1)) * b) * b ^ k := by rw [Nat.mul_assoc, Nat.mul_comm b (b ^ k)]
      have e2 : (b + k) * b ^ k * (b + 1) = ((b + k) * (b + 1)) * b ^ k := by rw [Nat.mul_assoc, Nat.mul_comm (b ^ k), ← Nat.mul_assoc]
      rw [e1, e2]
      apply Nat.mul_le_mul_right
      rw [Nat.mul_add, Nat.mul_one, show b + (k + 1) = (b + k) + 1 by omega, Nat.add_mul, Nat.one_mul]
      omega
    calc (b + (k + 1)) * b ^ (k + 1) ≤ (b + k) * b ^ k * (b + 1) := h1
      _ ≤ b * (b + 1) ^ k * (b + 1) := Nat.mul_le_mul_right _ h
      _ = b * (b + 1) ^ (k + 1) := by rw [Nat.pow_succ, Nat.mul_assoc]
/-- a power overtakes a lesser one, whatever the factor -/
theorem growth (b c : Nat) : ∃ k, c * b ^ k < (b + 1) ^ k := by
  by_cases hb : b = 0
  · subst hb
    exact ⟨1, by simp⟩
  · refine ⟨b * c, ?_⟩
    have h := bernoulli b (b * c)
    have hp : 0 < b ^ (b * c) := Nat.pow_pos (by omega)
    have h2 : b * (c * b ^ (b * c)) < b * (b + 1) ^ (b * c) := by
      have h3 : b * (c * b ^ (b * c)) < (b + b * c) * b ^ (b * c) := by
        rw [← Nat.mul_assoc, Nat.add_mul]
        have : 0 < b * b ^ (b * c) := Nat.mul_pos (by omega) hp
        omega
      omega
    exact Nat.lt_of_mul_lt_mul_left h2

/-- a word in two parts -/
theorem wordsL_add (k a : Nat) (hk : 0 < k) : ∀ b, wordsL k (a + b) = (wordsL k a).flatMap fun s => (wordsL k b).map fun t => s ++ t
  | 0 => by simp [wordsL_zero]
  | b + 1 => by
    rw [← Nat.add_assoc, wordsL_succ k (a + b) hk, wordsL_add k a hk b, wordsL_succ k b hk, List.flatMap_assoc]
    congr 1
    funext s
    rw [List.flatMap_map, List.map_flatMap]
    congr 1
    funext t
    simp
/-- how many words have a given first and a given second part -/
theorem countP_two (k a b : Nat) (hk : 0 < k) (p q : List UInt8 → Bool) :
    (wordsL k (a + b)).countP (fun s => p (s.take a) && q (s.drop a)) = (wordsL k a).countP p * (wordsL k b).countP q := by
  rw [wordsL_add k a hk b]
  have hl : ∀ s ∈ wordsL k a, s.length = a := by
    intro s hs
    obtain ⟨i, _, rfl⟩ := List.mem_map.1 hs
    exact wordL_length k a i
  generalize wordsL k a = A at hl ⊢
  induction A with
  | nil => simp
  | cons s A ih =>
    have h1 := ih (fun s hs => hl s (by simp [hs]))
    have hs := hl s (by simp)
    rw [List.flatMap_cons, List.countP_append, h1, List.countP_map]
    have h2 : ((fun s => p (s.take a) && q (s.drop a)) ∘ fun t => s ++ t) = fun t => p s && q t := by
      funext t
      simp [← hs]
    rw [h2]
    cases hp : p s with
    | true => simp [hp, Nat.add_mul, Nat.add_comm]
    | false => simp [hp]
theorem wordsL_length (k n : Nat) : (wordsL k n).length = k ^ n := by simp [wordsL]
end Go.Cm

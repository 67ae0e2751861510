/- Plain laws: products and powers. No dump is imported. -/
import Derived.Test.YtihidaeecfbngaaJoinMath
namespace Go.Mx
open Go

theorem mulM_length (n : Nat) (a b : List (List Int)) : (mulM n a b).length = n := tabF_length _ _ _
theorem mulO_no {a b : List (List Int)} (h : (isMat a && isMat b) = false) : mulO a b = none := by
  unfold mulO
  rw [if_neg]
  rintro ⟨h1, h2, _⟩
  rw [h1, h2] at h; cases h
theorem mulO_len {a b : List (List Int)} (h : ¬ a.length = b.length) : mulO a b = none := by
  unfold mulO
  rw [if_neg]
  rintro ⟨_, _, h3, _⟩
  exact h h3
theorem mulO_bad {a b : List (List Int)} (h : isMat (mulM b.length a b) = false) : mulO a b = none := by
  unfold mulO
  rw [if_neg]
  rintro ⟨_, _, _, h4⟩
  rw [h] at h4; cases h4
theorem mulO_yes {a b : List (List Int)} (h : (isMat a && isMat b) = true) (h2 : a.length = b.length) (h3 : isMat (mulM b.length a b) = true) : mulO a b = some (mulM b.length a b) := by
  rw [Bool.and_eq_true] at h
  unfold mulO
  rw [if_pos ⟨h.1, h.2, h2, h3⟩]
theorem mulO_mat {a b r : List (List Int)} (h : mulO a b = some r) : isMat r = true := by
  unfold mulO at h
  split at h
  · next hc => cases h; exact hc.2.2.2
  · cases h
def idF (i j : Nat) : Int := if i = j then 1 else 0
theorem unitM_eq (n : Nat) : unitM n = tabF n n idF := rfl
def upB (i p _q : Nat) : Bool := decide (p < i)
theorem unit_set {n i : Nat} (hi : i < n) : setM (tabF n n (maskF (upB i) idF)) i i 1 = tabF n n (maskF (upB (i + 1)) idF) := by
  have h := mask_set (R := n) (C := n) (F := idF) (D := upB i) (D' := fun p q => upB i p q || (decide (p = i) && decide (q = i))) (i := i) (j := i) hi fun p q _ _ => rfl
  have e : idF i i = 1 := if_pos rfl
  rw [e] at h
  rw [h]
  apply mask_same
  intro p q _ _
  by_cases hp : p = i ∧ q ≠ i
  · right
    unfold idF
    rw [if_neg]
    intro e2
    exact hp.2 (e2 ▸ hp.1)
  · left
    rw [Bool.eq_iff_iff]; simp [upB]; omega
theorem unit_zero {n : Nat} : tabF n n (fun _ _ => 0) = tabF n n (maskF (upB 0) idF) := (mask_none fun p q _ _ => .inl (by simp [upB])).symm
theorem unit_all {n : Nat} : tabF n n (maskF (upB n) idF) = unitM n := mask_all fun p q hp _ => .inl (by simp [upB]; exact hp)
theorem powM_none {m : List (List Int)} {k : Nat} (h : powM m k = none) : ∀ j, powM m (k + j) = none
  | 0 => h
  | j + 1 => by
    have := powM_none h j
    rw [← Nat.add_assoc]
    unfold powM
    rw [this]; rfl
theorem powM_succ {m x : List (List Int)} {k : Nat} (h : powM m k = some x) : powM m (k + 1) = mulO x m := by
  conv => lhs; unfold powM
  rw [h]; rfl
theorem powM_late {m : List (List Int)} {k N : Nat} (h : powM m k = none) (hk : k ≤ N) : powM m N = none := by
  have := powM_none h (N - k)
  rwa [show k + (N - k) = N by omega] at this
def powO (m : List (List Int)) (n : Int) : Option (List (List Int)) := if isMat m = true ∧ 0 ≤ n ∧ n ≤ 30 then powM m n.toNat else none
def powG (m : List (List Int)) (n : Int) : Option (List (List Int)) := if 1 ≤ n then powO m n else none
theorem powO_no {m : List (List Int)} {n : Int} (h : isMat m = false) : powO m n = none := by unfold powO; rw [h]; simp
theorem powO_far {m : List (List Int)} {n : Int} (h : n < 0 ∨ 30 < n) : powO m n = none := by
  unfold powO
  rw [if_neg]
  rintro ⟨_, h1, h2⟩
  omega
theorem powO_yes {m : List (List Int)} {N : Nat} (h : isMat m = true) (h2 : N ≤ 30) : powO m (N : Int) = powM m N := by
  unfold powO
  rw [if_pos ⟨h, by omega, by omega⟩]; rfl
theorem IsM.unit {n : Nat} {m : List (List Int)} (h : IsM n m) : isMat (unitM n) = true := tabF_isMat h.pos h.le fun i j _ _ => by split <;> omega
theorem powM_mat {m : List (List Int)} (h : isMat m = true) : ∀ {k : Nat} {r : List (List Int)}, powM m k = some r → isMat r = true
  | 0, r, e => by
    simp only [powM, Option.some.injEq] at e
    rw [← e]; exact (isMat_yes h).unit
  | k + 1, r, e => by
    cases hk : powM m k with
    | none => have := powM_none hk 1; rw [this] at e; cases e
    | some x => rw [powM_succ hk] at e; exact mulO_mat e
theorem powG_size (m : List (List Int)) (n : Int) : sizeM ((powG m n).getD []) ≤ 1000000000 := by
  cases h : powG m n with
  | none => simp [sizeM]
  | some r =>
    unfold powG powO at h
    split at h
    · split at h
      · next hc =>
        have := isMat_size9 (isMat_yes (powM_mat hc.1 h))
        simp; omega
      · cases h
    · cases h
end Go.Mx

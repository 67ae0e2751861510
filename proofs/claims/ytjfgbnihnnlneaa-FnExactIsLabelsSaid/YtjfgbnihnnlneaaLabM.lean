/- What it means that a labelled graph is valid: plain laws. -/
import Derived.Test.YtjfgbnihnnlneaaLabF
namespace Go.Proofs.Ytjfgbnihnnlneaa

def arcOk (L S : Int) (a : Int × Int × Int) : Bool := decide (0 ≤ a.1 ∧ a.1 < S ∧ 0 ≤ a.2.1 ∧ a.2.1 < S ∧ 0 ≤ a.2.2 ∧ a.2.2 < L)
def okAt (L S : Int) (ar : List (Int × Int × Int)) (k : Nat) : Bool := arcOk L S (ar.getD k (0, 0, 0)) && (decide (k = 0) || decide (cmpA (ar.getD (k - 1) (0, 0, 0)) (ar.getD k (0, 0, 0)) < 0))
def isLab (L S : Int) (ar : List (Int × Int × Int)) : Bool := (decide (1 ≤ L ∧ L ≤ 3) && decide (1 ≤ S ∧ S ≤ 12)) && (List.range ar.length).all (okAt L S ar)
theorem isLab_head {L S : Int} {ar : List (Int × Int × Int)} (h : ¬ (1 ≤ L ∧ L ≤ 3) ∨ ¬ (1 ≤ S ∧ S ≤ 12)) : isLab L S ar = false := by
  unfold isLab
  rcases h with h | h
  · rw [decide_eq_false h]; simp
  · rw [decide_eq_false h]; simp
theorem isLab_bad {L S : Int} {ar : List (Int × Int × Int)} {k : Nat} (hk : k < ar.length) (h : okAt L S ar k = false) : isLab L S ar = false := by
  unfold isLab
  rw [show (List.range ar.length).all (okAt L S ar) = false by rw [List.all_eq_false]; exact ⟨k, List.mem_range.2 hk, by rw [h]; simp⟩, Bool.and_false]
theorem isLab_all {L S : Int} {ar : List (Int × Int × Int)} (h : ∀ j, j < ar.length → okAt L S ar j = true) : isLab L S ar = (decide (1 ≤ L ∧ L ≤ 3) && decide (1 ≤ S ∧ S ≤ 12)) := by
  unfold isLab
  rw [show (List.range ar.length).all (okAt L S ar) = true by rw [List.all_eq_true]; intro j hj; exact h j (List.mem_range.1 hj), Bool.and_true]
theorem okAt_arc {L S : Int} {ar : List (Int × Int × Int)} {k : Nat} {x y z : Int} (hx : ar[k]? = some (x, y, z)) (h : ¬ (0 ≤ x ∧ x < S ∧ 0 ≤ y ∧ y < S ∧ 0 ≤ z ∧ z < L)) : okAt L S ar k = false := by
  unfold okAt arcOk
  rw [List.getD_eq_getElem?_getD, hx, Option.getD_some, decide_eq_false h, Bool.false_and]
theorem okAt_zero {L S : Int} {ar : List (Int × Int × Int)} {x y z : Int} (hx : ar[0]? = some (x, y, z)) (h : 0 ≤ x ∧ x < S ∧ 0 ≤ y ∧ y < S ∧ 0 ≤ z ∧ z < L) : okAt L S ar 0 = true := by
  unfold okAt arcOk
  rw [List.getD_eq_getElem?_getD, hx, Option.getD_some, decide_eq_true h]; rfl
theorem okAt_succ {L S : Int} {ar : List (Int × Int × Int)} {k : Nat} {x y z x' y' z' : Int} (hp : ar[k]? = some (x', y', z')) (hx : ar[k + 1]? = some (x, y, z)) (h : 0 ≤ x ∧ x < S ∧ 0 ≤ y ∧ y < S ∧ 0 ≤ z ∧ z < L) : okAt L S ar (k + 1) = decide (cmpA (x', y', z') (x, y, z) < 0) := by
  unfold okAt arcOk
  rw [List.getD_eq_getElem?_getD, hx, Option.getD_some, decide_eq_true h, Nat.add_sub_cancel, List.getD_eq_getElem?_getD, hp, Option.getD_some]
  simp

end Go.Proofs.Ytjfgbnihnnlneaa

/- Undoing codes, twins. No program in sight. -/
import Derived.Test.YtdempmpljekehaaFstMath
namespace Go.Cm

/-- one word more is laid into the table -/
def undoStep (K n a : Nat) (o : ByteArray) (acc : Option (List UInt8)) (u : List UInt8) : Option (List UInt8) :=
  acc.bind fun t => if (t.getD (idxL K (applyL K n o u)) 0 != 0 && t.getD (idxL K (applyL K n o u)) 0 != u.getD a 0) = true then none else some (t.set (idxL K (applyL K n o u)) (u.getD a 0))
def undoTo (K n m a : Nat) (o : ByteArray) (k : Nat) : Option (List UInt8) := ((wordsL K (n + m - 1)).take k).foldl (undoStep K n a o) (some (List.replicate (K ^ m) 0))
/-- letters where nothing was laid -/
def fillA (c : UInt8) : UInt8 := if c = 0 then 97 else c
/-- the table of the code that undoes another one but for a place -/
def undoL (K n m a : Nat) (o : ByteArray) : Option (List UInt8) := (undoTo K n m a o (K ^ (n + m - 1))).map (·.map fillA)
theorem undoTo_zero (K n m a : Nat) (o : ByteArray) : undoTo K n m a o 0 = some (List.replicate (K ^ m) 0) := by simp [undoTo]
theorem undoTo_succ (K n m a : Nat) (o : ByteArray) (k : Nat) (u : List UInt8) (h : (wordsL K (n + m - 1))[k]? = some u) : undoTo K n m a o (k + 1) = undoStep K n a o (undoTo K n m a o k) u := by
  unfold undoTo
  rw [List.take_add_one, h, List.foldl_append]
  rfl
theorem undoTo_none {K n m a : Nat} {o : ByteArray} {k : Nat} (h : undoTo K n m a o k = none) : ∀ j, undoTo K n m a o (k + j) = none
  | 0 => h
  | j + 1 => by
    have ih := undoTo_none h j
    rw [← Nat.add_assoc]
    cases hu : (wordsL K (n + m - 1))[k + j]? with
    | some u => rw [undoTo_succ _ _ _ _ _ _ u hu, ih]; rfl
    | none =>
      unfold undoTo at ih ⊢
      rw [List.take_add_one, hu]
      simpa using ih
theorem undoL_none {K n m a : Nat} {o : ByteArray} {k : Nat} (hk : k ≤ K ^ (n + m - 1)) (h : undoTo K n m a o k = none) : undoL K n m a o = none := by
  have := undoTo_none h (K ^ (n + m - 1) - k)
  rw [show k + (K ^ (n + m - 1) - k) = K ^ (n + m - 1) by omega] at this
  unfold undoL
  rw [this]; rfl
theorem undoTo_length {K n m a : Nat} {o : ByteArray} : ∀ {k : Nat} {t : List UInt8}, undoTo K n m a o k = some t → t.length = K ^ m
  | 0, t, h => by rw [undoTo_zero] at h; cases h; simp
  | k + 1, t, h => by
    cases hu : (wordsL K (n + m - 1))[k]? with
    | none =>
      have e : undoTo K n m a o (k + 1) = undoTo K n m a o k := by
        unfold undoTo
        rw [List.take_add_one, hu]
        simp
      rw [e] at h
      exact undoTo_length h
    | some u =>
      rw [undoTo_succ _ _ _ _ _ _ u hu] at h
      cases hk : undoTo K n m a o k with
      | none => rw [hk] at h; cases h
      | some t' =>
        have ih := undoTo_length hk
        rw [hk] at h
        simp only [undoStep, Option.bind_some] at h
        split at h
        · cases h
        · cases h; simpa using ih

/-- letters laid in the first k places -/
def fillTo (t : List UInt8) (k : Nat) : List UInt8 := (t.take k).map fillA ++ t.drop k
theorem fillTo_zero (t : List UInt8) : fillTo t 0 = t := by simp [fillTo]
theorem fillTo_all (t : List UInt8) : fillTo t t.length = t.map fillA := by simp [fillTo]
theorem fillTo_length (t : List UInt8) (k : Nat) (h : k ≤ t.length) : (fillTo t k).length = t.length := by simp [fillTo]; omega
theorem fillTo_at (t : List UInt8) (k : Nat) (h : k < t.length) : (fillTo t k).getD k 0 = t.getD k 0 := by
  unfold fillTo
  have hl : ((t.take k).map fillA).length = k := by simp; omega
  rw [List.getD_eq_getElem?_getD, List.getElem?_append_right (by omega), hl, Nat.sub_self, List.getD_eq_getElem?_getD, List.getElem?_drop, Nat.add_zero]
theorem fillTo_succ (t : List UInt8) (k : Nat) (h : k < t.length) : fillTo t (k + 1) = (fillTo t k).set k (fillA (t.getD k 0)) := by
  unfold fillTo
  have hl : ((t.take k).map fillA).length = k := by simp; omega
  rw [List.set_append_right _ _ (by omega), hl, Nat.sub_self, List.take_succ_eq_append_getElem h, List.map_append, List.drop_eq_getElem_cons h, List.set_cons_zero, List.append_assoc, List.getD_eq_getElem?_getD, List.getElem?_eq_getElem h]
  rfl
theorem fillTo_keep (t : List UInt8) (k : Nat) (h : k < t.length) (hz : t.getD k 0 ≠ 0) : fillTo t (k + 1) = fillTo t k := by
  rw [fillTo_succ t k h]
  have e : fillA (t.getD k 0) = (fillTo t k).getD k 0 := by rw [fillTo_at t k h]; unfold fillA; rw [if_neg hz]
  rw [e]
  have hl := fillTo_length t k (by omega)
  apply List.ext_getElem
  · simp
  · intro i h1 h2
    rw [List.getElem_set]
    split
    · rename_i e; subst e; rw [List.getD_eq_getElem?_getD, List.getElem?_eq_getElem h2]; rfl
    · rfl

/-- two words with the same ends and the same letters -/
def twinB (K n : Nat) (o : ByteArray) (u v : List UInt8) : Bool :=
  decide (u.take (n - 1) = v.take (n - 1)) && (decide (u.drop (u.length - (n - 1)) = v.drop (v.length - (n - 1))) && decide (applyL K n o u = applyL K n o v))
def twinAt (K n : Nat) (o : ByteArray) (l : List (List UInt8)) (i : Nat) : Option (List UInt8 × List UInt8) :=
  firstOf l.length fun j => if i < j ∧ twinB K n o (l.getD i []) (l.getD j []) = true then some (l.getD i [], l.getD j []) else none
def twinOf (K n : Nat) (o : ByteArray) (m : Nat) : Option (List UInt8 × List UInt8) :=
  firstOf (wordsL K m).length fun i => twinAt K n o (wordsL K m) i
/-- the first twins -/
def twinL (K n : Nat) (o : ByteArray) : Option (List UInt8 × List UInt8) :=
  firstOf 8 fun m => if n ≤ m then twinOf K n o m else none
end Go.Cm

/- Words of groups. No program in sight. -/
import Derived.Test.YtdempmpljekehaaPermMath
namespace Go.Cm

theorem letN_num {y : Nat} (h : y < 100) : (letN y).toNat - 97 = y := by
  have : ((letN y).toNat : Int) = ((97 + y : Nat) : Int) := by unfold letN; exact ofNat_toNat (by omega)
  omega

theorem idxL_wordL (K : Nat) (hK0 : 0 < K) (hK : K ≤ 3) : ∀ m i, i < K ^ m → idxL K (wordL K m i) = i
  | 0, i, h => by simp at h; subst h; rfl
  | m + 1, i, h => by
    have hm : i % K < K := Nat.mod_lt _ hK0
    rw [wordL, idxL_snoc, idxL_wordL K hK0 hK m (i / K) (by rw [Nat.pow_succ] at h; exact Nat.div_lt_of_lt_mul (by rw [Nat.mul_comm]; exact h)), letN_num (by omega)]
    exact Nat.div_add_mod' i K

theorem idxL_cons (K : Nat) (c : UInt8) (u : List UInt8) : idxL K (c :: u) = (c.toNat - 97) * K ^ u.length + idxL K u := by
  refine snoc_induction (p := fun u => idxL K (c :: u) = (c.toNat - 97) * K ^ u.length + idxL K u) ?_ ?_ u
  · simp [idxL]
  · intro u d ih
    have e : c :: (u ++ [d]) = (c :: u) ++ [d] := rfl
    rw [e, idxL_snoc, idxL_snoc, ih, List.length_append, List.length_singleton, Nat.pow_succ, Nat.add_mul, Nat.mul_assoc, Nat.add_assoc]

/-- the word of a group with a letter at its end, or ahead -/
def grpL (K m i x : Nat) (r : Bool) : List UInt8 := if r then letN x :: wordL K m i else wordL K m i ++ [letN x]
theorem grpL_length (K m i x : Nat) (r : Bool) : (grpL K m i x r).length = m + 1 := by unfold grpL; split <;> simp [wordL_length]
theorem areLet_grp (K m i x : Nat) (r : Bool) (hK0 : 0 < K) (hK : K ≤ 3) (hx : x < K) : areLet K (grpL K m i x r) = true := by
  have h1 := areLet_wordL K hK0 hK m i
  have h2 : areLet K [letN x] = true := by
    have h2 : ((letN x).toNat : Int) = ((97 + x : Nat) : Int) := by unfold letN; exact ofNat_toNat (by omega)
    simp [areLet, isLet, h2]
    omega
  unfold grpL
  split
  · have e : letN x :: wordL K m i = [letN x] ++ wordL K m i := rfl
    rw [e, areLet_append, h1, h2]; rfl
  · rw [areLet_append, h1, h2]; rfl
theorem idxL_grp (K m i x : Nat) (r : Bool) (hK0 : 0 < K) (hK : K ≤ 3) (hx : x < K) (hi : i < K ^ m) : idxL K (grpL K m i x r) = atL K (K ^ m) i x r := by
  unfold grpL atL
  split
  · rw [idxL_cons, idxL_wordL K hK0 hK m i hi, wordL_length, letN_num (by omega)]
  · rw [idxL_snoc, idxL_wordL K hK0 hK m i hi, letN_num (by omega)]

/-- the letters of a group -/
def grpS (K m : Nat) (o : ByteArray) (r : Bool) (i a : Nat) : List UInt8 := (List.range a).map fun x => givesL K o (grpL K m i x r)
theorem grpS_succ (K m : Nat) (o : ByteArray) (r : Bool) (i a : Nat) : grpS K m o r i (a + 1) = grpS K m o r i a ++ [givesL K o (grpL K m i a r)] := by simp [grpS, List.range_succ]
theorem grpS_length (K m : Nat) (o : ByteArray) (r : Bool) (i a : Nat) : (grpS K m o r i a).length = a := by simp [grpS]
theorem rowL_grpS (K m : Nat) (o : ByteArray) (r : Bool) (i a : Nat) (hK0 : 0 < K) (hK : K ≤ 3) (ha : a ≤ K) (hi : i < K ^ m) : rowL K (K ^ m) o r i a = (grpS K m o r i a).map fun c => c.toNat - 97 := by
  unfold rowL grpS
  rw [List.map_map]
  apply List.map_congr_left
  intro x hx
  have hx' : x < a := by simpa using hx
  simp only [Function.comp, givesL, idxL_grp K m i x r hK0 hK (by omega) hi]

/-- letters that are such are alike if their numbers are -/
theorem num_inj {k k' : Int} {c d : UInt8} (hc : isLet k c = true) (hd : isLet k' d = true) (h : c.toNat - 97 = d.toNat - 97) : c = d := by
  simp only [isLet, Bool.and_eq_true, decide_eq_true_eq] at hc hd
  exact UInt8.toNat_inj.1 (by omega)
end Go.Cm

/- Codes on words. No program in sight. -/
import Derived.Test.YtgaeeibcfoppbaaDoorWordMath
namespace Go.Cm

/-- what a word is -/
def wordOk (k : Int) (s : ByteArray) : Bool := (decide (1 ≤ k) && decide (k ≤ 3)) && (decide (s.size ≤ 16) && areLet k s.data.toList)

/-- the index of a word -/
def idxL (k : Nat) (u : List UInt8) : Nat := u.foldl (fun n c => n * k + (c.toNat - 97)) 0
theorem idxL_snoc (k : Nat) (u : List UInt8) (c : UInt8) : idxL k (u ++ [c]) = idxL k u * k + (c.toNat - 97) := by simp [idxL]
theorem areLet_append (k : Int) (u v : List UInt8) : areLet k (u ++ v) = (areLet k u && areLet k v) := by simp [areLet]
theorem snoc_induction {p : List UInt8 → Prop} (h0 : p []) (hs : ∀ u c, p u → p (u ++ [c])) (u : List UInt8) : p u := by
  have : ∀ n (u : List UInt8), u.length = n → p u := by
    intro n
    induction n with
    | zero => intro u hu; have : u = [] := List.eq_nil_of_length_eq_zero hu; rw [this]; exact h0
    | succ n ih =>
      intro u hu
      have hne : u ≠ [] := by intro h; rw [h] at hu; simp at hu
      rw [← List.dropLast_concat_getLast hne]
      exact hs _ _ (ih _ (by rw [List.length_dropLast]; omega))
  exact this u.length u rfl
theorem idxL_lt (k : Nat) (u : List UInt8) : areLet k u = true → idxL k u < k ^ u.length := by
  refine snoc_induction (p := fun u => areLet k u = true → idxL k u < k ^ u.length) ?_ ?_ u
  · intro _; simp [idxL]
  · intro u c ih h
    rw [areLet_append] at h
    simp only [Bool.and_eq_true] at h
    have h1 := ih h.1
    have h2 : c.toNat - 97 < k := by
      have := h.2
      simp [areLet, isLet] at this
      omega
    rw [idxL_snoc, List.length_append, List.length_singleton, Nat.pow_succ]
    have h3 : (idxL k u + 1) * k ≤ k ^ u.length * k := Nat.mul_le_mul_right k h1
    rw [Nat.succ_mul] at h3
    omega

/-- the letter that a code gives to a word of its width -/
def givesL (K : Nat) (o : ByteArray) (u : List UInt8) : UInt8 := o.data.toList.getD (idxL K u) 0
/-- the part of a word -/
def partL (W i : Nat) (u : List UInt8) : List UInt8 := (u.drop i).take W
theorem partL_length {W i : Nat} {u : List UInt8} (h : i + W ≤ u.length) : (partL W i u).length = W := by simp [partL]; omega
theorem areLet_part {k : Int} {u : List UInt8} (W i : Nat) (h : areLet k u = true) : areLet k (partL W i u) = true := by
  unfold areLet at *
  rw [List.all_eq_true] at *
  intro c hc
  exact h c (List.mem_of_mem_drop (List.mem_of_mem_take hc))
/-- the letters for all parts -/
def applyL (K W : Nat) (o : ByteArray) (u : List UInt8) : List UInt8 := (List.range (u.length + 1 - W)).map fun i => givesL K o (partL W i u)
def applyTo (K W : Nat) (o : ByteArray) (u : List UInt8) (k : Nat) : List UInt8 := (List.range k).map fun i => givesL K o (partL W i u)
theorem applyTo_succ (K W : Nat) (o : ByteArray) (u : List UInt8) (k : Nat) : applyTo K W o u (k + 1) = applyTo K W o u k ++ [givesL K o (partL W k u)] := by simp [applyTo, List.range_succ]
theorem applyTo_length (K W : Nat) (o : ByteArray) (u : List UInt8) (k : Nat) : (applyTo K W o u k).length = k := by simp [applyTo]

theorem extract_part (s : ByteArray) (i W : Nat) : s.extract i (i + W) = mkS (partL W i s.data.toList) := by
  apply ByteArray.ext
  apply Array.ext'
  rw [Lib.extract_data, mkS_data]
  unfold partL
  rw [show i + W - i = W by omega]

/-- a code's parts -/
theorem codeOk_parts {L W : Int} {o : ByteArray} (h : codeOk L W o = true) : ∃ K n : Nat, L = K ∧ W = n ∧ 2 ≤ K ∧ K ≤ 3 ∧ 1 ≤ n ∧ n ≤ 4 ∧ K ^ n ≤ 27 ∧ o.size = K ^ n ∧ areLet K o.data.toList = true := by
  unfold codeOk at h
  simp only [Bool.and_eq_true, Bool.or_eq_true, decide_eq_true_eq] at h
  obtain ⟨hL, h1, h4, h27, hs, ha⟩ := h
  obtain ⟨K, rfl⟩ := Int.eq_ofNat_of_zero_le (show 0 ≤ L by omega)
  obtain ⟨n, rfl⟩ := Int.eq_ofNat_of_zero_le (show 0 ≤ W by omega)
  have hp : pw (K : Int) (n : Int) = ((K ^ n : Nat) : Int) := by simp [pw]
  rw [hp] at h27 hs
  exact ⟨K, n, rfl, rfl, by omega, by omega, by omega, by omega, by omega, by omega, ha⟩
end Go.Cm
namespace Go.Cm
theorem isLet_getD {k : Int} {l : List UInt8} (h : areLet k l = true) {i : Nat} (hi : i < l.length) : isLet k (l.getD i 0) = true := by
  unfold areLet at h
  rw [List.all_eq_true] at h
  rw [List.getD_eq_getElem?_getD, List.getElem?_eq_getElem hi]
  exact h _ (List.getElem_mem _)
theorem areLet_apply {K n : Nat} {o : ByteArray} (hos : o.size = K ^ n) (hoa : areLet K o.data.toList = true) {u : List UInt8} (hu : areLet K u = true) : areLet K (applyL K n o u) = true := by
  unfold areLet
  rw [List.all_eq_true]
  intro c hc
  simp only [applyL, List.mem_map, List.mem_range] at hc
  obtain ⟨i, hi, rfl⟩ := hc
  refine isLet_getD hoa ?_
  have hpl : (partL n i u).length = n := partL_length (by omega)
  have := idxL_lt K (partL n i u) (areLet_part n i hu)
  rw [hpl, ← hos] at this
  simpa using this
theorem applyL_length (K n : Nat) (o : ByteArray) (u : List UInt8) : (applyL K n o u).length = u.length + 1 - n := by simp [applyL]
theorem areLet_wordL (K : Nat) (hK0 : 0 < K) (hK : K ≤ 3) : ∀ n i, areLet K (wordL K n i) = true
  | 0, _ => rfl
  | n + 1, i => by
    have hm : i % K < K := Nat.mod_lt _ hK0
    rw [wordL, areLet_append, areLet_wordL K hK0 hK n]
    have h2 : ((letN (i % K)).toNat : Int) = ((97 + i % K : Nat) : Int) := by unfold letN; exact ofNat_toNat (by omega)
    simp [areLet, isLet, h2]
    omega
theorem mem_wordsL {K n : Nat} {u : List UInt8} (h : u ∈ wordsL K n) (hK0 : 0 < K) (hK : K ≤ 3) : u.length = n ∧ areLet K u = true := by
  simp only [wordsL, List.mem_map] at h
  obtain ⟨i, _, rfl⟩ := h
  exact ⟨wordL_length K n i, areLet_wordL K hK0 hK n i⟩
/-- a code behind another one -/
def composeL (K m : Nat) (o o' : ByteArray) (u : List UInt8) : UInt8 := givesL K o (applyL K m o' u)
end Go.Cm

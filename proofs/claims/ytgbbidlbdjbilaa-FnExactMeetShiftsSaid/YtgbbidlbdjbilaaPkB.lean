/- Several texts of mine in one: CodeMath, WordMath, LiveMath, ShMath, ApplyMath, SrcMath, MatMath, TabMath, FillMath, JoinMath, PowMath, ArcMath, WarMath. -/
import Derived.WalkKit
import Derived.Lib.Strings
import Derived.Test.YtgbbidlbdjbilaaPkA
import Derived.Lib.IndexMore
/- Plain words and codes: letters, powers. No program in sight. -/
namespace Go.Cm
open Go.RowKit

/-- a power -/
def pw (k n : Int) : Int := k ^ n.toNat
theorem pw_zero (k : Int) : pw k 0 = 1 := by simp [pw]
theorem pw_succ (k : Int) (n : Nat) : pw k ((n : Int) + 1) = pw k n * k := by
  unfold pw
  have h : ((n : Int) + 1).toNat = n + 1 := by omega
  have h' : ((n : Int)).toNat = n := by omega
  rw [h, h', Int.pow_succ]
theorem pw_nonneg {k : Int} (h : 0 ≤ k) (n : Nat) : 0 ≤ pw k n := by
  induction n with
  | zero => simp [pw]
  | succ n ih =>
    have : ((n + 1 : Nat) : Int) = (n : Int) + 1 := by omega
    rw [this, pw_succ]
    exact Int.mul_nonneg ih h
theorem pw_le {k : Int} (h0 : 0 ≤ k) (h3 : k ≤ 3) (n : Nat) : pw k n ≤ 3 ^ n := by
  induction n with
  | zero => simp [pw]
  | succ n ih =>
    have e : ((n + 1 : Nat) : Int) = (n : Int) + 1 := by omega
    rw [e, pw_succ, Int.pow_succ]
    exact Int.mul_le_mul ih h3 h0 (Int.le_trans (pw_nonneg h0 n) ih)
theorem pow3_le {n : Nat} (h : n ≤ 16) : (3 : Int) ^ n ≤ 43046721 := by
  have : (3 : Nat) ^ n ≤ 3 ^ 16 := Nat.pow_le_pow_right (by omega) h
  have e : (3 : Int) ^ n = ((3 ^ n : Nat) : Int) := by simp
  rw [e]
  have e2 : (3 : Nat) ^ 16 = 43046721 := by decide
  omega
theorem pw_bd {k n : Int} (h0 : 0 ≤ k) (h3 : k ≤ 3) (hn : 0 ≤ n) (h16 : n ≤ 16) : 0 ≤ pw k n ∧ pw k n ≤ 43046721 := by
  obtain ⟨m, rfl⟩ := Int.eq_ofNat_of_zero_le hn
  exact ⟨pw_nonneg h0 m, Int.le_trans (pw_le h0 h3 m) (pow3_le (by omega))⟩

/-- one letter of the first k -/
def isLet (k : Int) (c : UInt8) : Bool := decide (97 ≤ (c.toNat : Int)) && decide ((c.toNat : Int) - 97 < k)
/-- letters alone -/
def areLet (k : Int) (l : List UInt8) : Bool := l.all (isLet k)

theorem take_snoc (s : ByteArray) (k : Nat) (h : k < s.size) : s.data.toList.take (k + 1) = s.data.toList.take k ++ [s[k]] := by
  rw [List.take_succ_eq_append_getElem (by simpa using h)]; rfl
theorem take_all (s : ByteArray) : s.data.toList.take s.size = s.data.toList := List.take_of_length_le (by simp)
theorem areLet_snoc {k : Int} {s : ByteArray} {n : Nat} (h : n < s.size) (hp : areLet k (s.data.toList.take n) = true) (h1 : 97 ≤ (s[n].toNat : Int)) (h2 : (s[n].toNat : Int) - 97 < k) : areLet k (s.data.toList.take (n + 1)) = true := by
  rw [take_snoc s n h]
  simp only [areLet, List.all_append] at hp ⊢
  simp [hp, isLet, h1, h2]
theorem areLet_bad {k : Int} {s : ByteArray} {n : Nat} (h : n < s.size) (h1 : ¬ (97 ≤ (s[n].toNat : Int) ∧ (s[n].toNat : Int) - 97 < k)) : areLet k s.data.toList = false := by
  unfold areLet
  rw [List.all_eq_false]
  refine ⟨s[n], ?_, ?_⟩
  · have : s.data.toList[n]'(by simpa using h) = s[n] := rfl
    rw [← this]; exact List.getElem_mem _
  · simp only [isLet, Bool.and_eq_true, decide_eq_true_eq]
    exact h1
theorem areLet_all {k : Int} {s : ByteArray} (hp : areLet k (s.data.toList.take s.size) = true) : areLet k s.data.toList = true := by rwa [take_all] at hp

/-- What a code is. -/
def codeOk (L W : Int) (s : ByteArray) : Bool := (decide (L = 2) || decide (L = 3)) && (decide (1 ≤ W) && (decide (W ≤ 4) && (decide (pw L W ≤ 27) && (decide ((s.size : Int) = pw L W) && areLet L s.data.toList))))
end Go.Cm

/- Words by their index. No program in sight. -/
namespace Go.Cm

/-- the letter at an index -/
def letN (y : Nat) : UInt8 := UInt8.ofNat (97 + y)

/-- The word of length n with k letters at an index. -/
def wordL (k : Nat) : Nat → Nat → List UInt8
  | 0, _ => []
  | n + 1, i => wordL k n (i / k) ++ [letN (i % k)]
theorem wordL_length (k : Nat) : ∀ n i, (wordL k n i).length = n
  | 0, _ => rfl
  | n + 1, i => by simp [wordL, wordL_length k n]

/-- All words of a length. -/
def wordsL (k n : Nat) : List (List UInt8) := (List.range (k ^ n)).map (wordL k n)
/-- as texts -/
def mkS (l : List UInt8) : ByteArray := ⟨l.toArray⟩
theorem mkS_size (l : List UInt8) : (mkS l).size = l.length := by simp [mkS, ByteArray.size]
theorem mkS_data (l : List UInt8) : (mkS l).data.toList = l := by simp [mkS]

theorem mkS_get (l : List UInt8) (a : Nat) (h : a < (mkS l).size) : (mkS l)[a] = l.getD a 0 := by
  have h' : a < l.length := by rw [← mkS_size]; exact h
  show (mkS l).data[a]'h = _
  simp [mkS, List.getD_eq_getElem?_getD, List.getElem?_eq_getElem h']
theorem mkS_data_self (s : ByteArray) : mkS s.data.toList = s := by
  obtain ⟨⟨l⟩⟩ := s
  rfl

theorem mkS_append (l r : List UInt8) : mkS l ++ mkS r = mkS (l ++ r) := by
  show ByteArray.append _ _ = _
  apply ByteArray.ext
  simp [mkS, ByteArray.append]
theorem abc_at (y : Nat) (h : y < 3) : (ByteArray.mk #[97, 98, 99]).extract y (y + 1) = mkS [letN y] := by
  match y, h with
  | 0, _ => rfl
  | 1, _ => rfl
  | 2, _ => rfl

theorem mkS_slice (u : List UInt8) (a : Nat) (h : a < u.length) : (mkS u).extract a (a + 1) = mkS [u.getD a 0] := by
  apply ByteArray.ext
  apply Array.ext'
  rw [Lib.extract_data, mkS_data, mkS_data]
  rw [List.getD_eq_getElem?_getD, List.getElem?_eq_getElem h]
  rw [List.drop_eq_getElem_cons h, show a + 1 - a = 1 by omega]
  rfl

theorem range_mul (m k : Nat) : List.range (m * k) = (List.range m).flatMap fun q => (List.range k).map fun x => q * k + x := by
  induction m with
  | zero => simp
  | succ m ih =>
    rw [List.range_succ, List.flatMap_append, ← ih, Nat.succ_mul, List.range_add]
    simp

theorem wordsL_succ (k n : Nat) (hk : 0 < k) : wordsL k (n + 1) = (wordsL k n).flatMap fun u => (List.range k).map fun x => u ++ [letN x] := by
  unfold wordsL
  rw [Nat.pow_succ, range_mul, List.map_flatMap, List.flatMap_map]
  congr 1
  funext q
  rw [List.map_map]
  apply List.map_congr_left
  intro x hx
  have hx' : x < k := by simpa using hx
  simp only [Function.comp, wordL]
  have h1 : (q * k + x) / k = q := by
    rw [Nat.add_comm, Nat.add_mul_div_right _ _ hk, Nat.div_eq_of_lt hx', Nat.zero_add]
  have h2 : (q * k + x) % k = x := by
    rw [Nat.add_comm, Nat.add_mul_mod_self_right, Nat.mod_eq_of_lt hx']
  rw [h1, h2]
theorem wordsL_zero (k : Nat) : wordsL k 0 = [[]] := by simp [wordsL, wordL]

theorem ofNat_toNat {n : Nat} (h : n < 256) : ((UInt8.ofNat n).toNat : Int) = n := by
  have : (UInt8.ofNat n).toNat = n % 256 := by simp
  rw [this, Nat.mod_eq_of_lt h]
end Go.Cm

/- The places of a graph through which a way goes that is infinite in both directions: the steps that find them. No program in sight. -/
namespace Go.Cm

/-- the arcs of the first i places -/
def arcsTo (next : List (List Nat)) (i : Nat) : List (Nat × Nat) := (List.range i).flatMap fun a => (next.getD a []).map fun k => (a, k)
def arcsIn (next : List (List Nat)) (i p : Nat) : List (Nat × Nat) := arcsTo next i ++ ((next.getD i []).take p).map fun k => (i, k)
theorem arcsIn_zero (next : List (List Nat)) (i : Nat) : arcsIn next i 0 = arcsTo next i := by simp [arcsIn]
theorem arcsIn_succ (next : List (List Nat)) (i p : Nat) (h : p < (next.getD i []).length) : arcsIn next i (p + 1) = arcsIn next i p ++ [(i, (next.getD i []).getD p 0)] := by
  unfold arcsIn
  rw [List.take_succ_eq_append_getElem h, List.map_append, ← List.append_assoc, List.getD_eq_getElem?_getD (l := next.getD i []), List.getElem?_eq_getElem h]
  rfl
theorem arcsIn_all (next : List (List Nat)) (i : Nat) : arcsIn next i (next.getD i []).length = arcsTo next (i + 1) := by
  unfold arcsIn arcsTo
  rw [List.take_length, List.range_succ, List.flatMap_append]
  simp

def onB (l : List Bool) (p : Nat × Nat) : Bool := l.getD p.1 false && l.getD p.2 false
/-- from which places an arc goes on, among these arcs -/
def fromL (n : Nat) (l : List Bool) (P : List (Nat × Nat)) : List Bool := (List.range n).map fun i => P.any fun p => p.1 == i && onB l p
/-- to which -/
def toL (n : Nat) (l : List Bool) (P : List (Nat × Nat)) : List Bool := (List.range n).map fun i => P.any fun p => p.2 == i && onB l p
theorem fromL_nil (n : Nat) (l : List Bool) : fromL n l [] = List.replicate n false := by
  apply List.ext_getElem
  · simp [fromL]
  · intro i h1 h2; simp [fromL]
theorem toL_nil (n : Nat) (l : List Bool) : toL n l [] = List.replicate n false := by
  apply List.ext_getElem
  · simp [toL]
  · intro i h1 h2; simp [toL]
theorem fromL_length (n : Nat) (l : List Bool) (P : List (Nat × Nat)) : (fromL n l P).length = n := by simp [fromL]
theorem toL_length (n : Nat) (l : List Bool) (P : List (Nat × Nat)) : (toL n l P).length = n := by simp [toL]
theorem fromL_on {n : Nat} {l : List Bool} {P : List (Nat × Nat)} {p : Nat × Nat} (h : onB l p = true) : fromL n l (P ++ [p]) = (fromL n l P).set p.1 true := by
  apply List.ext_getElem
  · simp [fromL]
  · intro i h1 h2
    rw [List.getElem_set]
    simp only [fromL, List.getElem_map, List.getElem_range, List.any_append, List.any_cons, List.any_nil, Bool.or_false, h, Bool.and_true]
    by_cases e : p.1 = i
    · simp [e]
    · simp [e]
theorem toL_on {n : Nat} {l : List Bool} {P : List (Nat × Nat)} {p : Nat × Nat} (h : onB l p = true) : toL n l (P ++ [p]) = (toL n l P).set p.2 true := by
  apply List.ext_getElem
  · simp [toL]
  · intro i h1 h2
    rw [List.getElem_set]
    simp only [toL, List.getElem_map, List.getElem_range, List.any_append, List.any_cons, List.any_nil, Bool.or_false, h, Bool.and_true]
    by_cases e : p.2 = i
    · simp [e]
    · simp [e]
theorem fromL_off {n : Nat} {l : List Bool} {P : List (Nat × Nat)} {p : Nat × Nat} (h : onB l p = false) : fromL n l (P ++ [p]) = fromL n l P := by
  unfold fromL
  apply List.map_congr_left
  intro i _
  simp [h]
theorem toL_off {n : Nat} {l : List Bool} {P : List (Nat × Nat)} {p : Nat × Nat} (h : onB l p = false) : toL n l (P ++ [p]) = toL n l P := by
  unfold toL
  apply List.map_congr_left
  intro i _
  simp [h]

/-- stays a place? -/
def stayB (next : List (List Nat)) (l : List Bool) (i : Nat) : Bool := (fromL next.length l (arcsTo next next.length)).getD i false && (toL next.length l (arcsTo next next.length)).getD i false
/-- one step, done for the first i places -/
def liveMix (next : List (List Nat)) (l : List Bool) (i : Nat) : List Bool := (List.range next.length).map fun j => l.getD j false && (stayB next l j || !decide (j < i))
def liveStep (next : List (List Nat)) (l : List Bool) : List Bool := liveMix next l next.length
theorem liveMix_length (next : List (List Nat)) (l : List Bool) (i : Nat) : (liveMix next l i).length = next.length := by simp [liveMix]
theorem liveMix_zero (next : List (List Nat)) (l : List Bool) (h : l.length = next.length) : liveMix next l 0 = l := by
  apply List.ext_getElem
  · simp [liveMix, h]
  · intro i h1 h2
    simp [liveMix, List.getD_eq_getElem?_getD, List.getElem?_eq_getElem h2]
theorem liveMix_at (next : List (List Nat)) (l : List Bool) (i : Nat) (h : i < next.length) : (liveMix next l i).getD i false = l.getD i false := by
  rw [List.getD_eq_getElem?_getD, List.getElem?_eq_getElem (by rw [liveMix_length]; exact h)]
  simp [liveMix]
theorem liveMix_succ (next : List (List Nat)) (l : List Bool) (i : Nat) (_ : i < next.length) : liveMix next l (i + 1) = (liveMix next l i).set i (l.getD i false && stayB next l i) := by
  apply List.ext_getElem
  · simp [liveMix]
  · intro j h1 h2
    rw [List.getElem_set]
    simp only [liveMix, List.getElem_map, List.getElem_range]
    by_cases e : i = j
    · subst e; simp
    · have : decide (j < i + 1) = decide (j < i) := by rw [decide_eq_decide]; omega
      simp [e, this]
theorem liveMix_keep (next : List (List Nat)) (l : List Bool) (i : Nat) (h : i < next.length) (hs : (l.getD i false && !stayB next l i) = false) : liveMix next l (i + 1) = liveMix next l i := by
  rw [liveMix_succ next l i h]
  have e : (l.getD i false && stayB next l i) = (liveMix next l i).getD i false := by
    rw [liveMix_at next l i h]
    cases h1 : l.getD i false <;> cases h2 : stayB next l i <;> simp_all
  rw [e]
  apply List.ext_getElem
  · simp
  · intro j h1 h2
    rw [List.getElem_set]
    by_cases e : i = j
    · subst e
      simp [List.getD_eq_getElem?_getD, List.getElem?_eq_getElem h2]
    · simp [e]

/-- has one of the first i places gone? -/
def goneL (next : List (List Nat)) (l : List Bool) (i : Nat) : Bool := (List.range i).any fun j => l.getD j false && !stayB next l j
theorem goneL_succ (next : List (List Nat)) (l : List Bool) (i : Nat) : goneL next l (i + 1) = (goneL next l i || (l.getD i false && !stayB next l i)) := by simp [goneL, List.range_succ]
theorem live_still {next : List (List Nat)} {l : List Bool} (h : l.length = next.length) (hg : goneL next l next.length = false) : liveStep next l = l := by
  apply List.ext_getElem
  · simp [liveStep, liveMix, h]
  · intro i h1 h2
    simp only [liveStep, liveMix, List.getElem_map, List.getElem_range]
    have hi : i < next.length := by omega
    have hh : (l.getD i false && !stayB next l i) = false := by
      unfold goneL at hg
      rw [List.any_eq_false] at hg
      simpa using hg i (by simpa using hi)
    have e : l.getD i false = l[i] := by simp [List.getD_eq_getElem?_getD, List.getElem?_eq_getElem h2]
    rw [e] at hh ⊢
    cases h1 : l[i] <;> cases h2 : stayB next l i <;> simp_all
/-- how many are left -/
def cntT (l : List Bool) : Nat := (l.map fun b => if b = true then 1 else 0).sum
theorem cntT_le (l : List Bool) : cntT l ≤ l.length := by
  unfold cntT
  induction l with
  | nil => simp
  | cons a l ih => cases a <;> simp <;> omega
theorem cntT_mono : ∀ {l l' : List Bool}, l.length = l'.length → (∀ j, l'.getD j false = true → l.getD j false = true) → cntT l' ≤ cntT l
  | [], [], _, _ => Nat.le_refl _
  | [], _ :: _, h, _ => by simp at h
  | _ :: _, [], h, _ => by simp at h
  | b :: l, b' :: l', hl, hle => by
    have := cntT_mono (l := l) (l' := l') (by simpa using hl) (fun j hj => by simpa using hle (j + 1) (by simpa using hj))
    have h0 : b' = true → b = true := by simpa using hle 0
    simp only [cntT, List.map_cons, List.sum_cons] at this ⊢
    cases b <;> cases b' <;> simp_all <;> omega
theorem cntT_lt : ∀ {l l' : List Bool} {i : Nat}, l.length = l'.length → (∀ j, l'.getD j false = true → l.getD j false = true) → l.getD i false = true → l'.getD i false = false → cntT l' < cntT l
  | [], _, _, _, _, h, _ => by simp at h
  | a :: l, [], _, h, _, _, _ => by simp at h
  | a :: l, a' :: l', i, hl, hle, h1, h2 => by
    have hl' : l.length = l'.length := by simpa using hl
    have hle' : ∀ j, l'.getD j false = true → l.getD j false = true := fun j hj => by simpa using hle (j + 1) (by simpa using hj)
    have h0 : a' = true → a = true := by simpa using hle 0
    have hc := cntT_mono hl' hle'
    cases i with
    | zero =>
      have e1 : a = true := by simpa using h1
      have e2 : a' = false := by simpa using h2
      subst e1 e2
      simp only [cntT, List.map_cons, List.sum_cons] at hc ⊢
      simp
      omega
    | succ i =>
      have := cntT_lt hl' hle' (by simpa using h1) (by simpa using h2)
      simp only [cntT, List.map_cons, List.sum_cons] at this ⊢
      cases a <;> cases a' <;> simp_all <;> omega
theorem live_less {next : List (List Nat)} {l : List Bool} (h : l.length = next.length) (hg : goneL next l next.length = true) : cntT (liveStep next l) < cntT l := by
  unfold goneL at hg
  rw [List.any_eq_true] at hg
  obtain ⟨i, hi, hh⟩ := hg
  have hi' : i < next.length := by simpa using hi
  simp only [Bool.and_eq_true, Bool.not_eq_true'] at hh
  have hget : ∀ j, (liveStep next l).getD j false = (l.getD j false && (stayB next l j && decide (j < next.length))) := by
    intro j
    by_cases hj : j < next.length
    · rw [List.getD_eq_getElem?_getD, List.getElem?_eq_getElem (by simpa [liveStep, liveMix] using hj)]
      simp [liveStep, liveMix, hj]
    · rw [List.getD_eq_getElem?_getD, List.getElem?_eq_none (by simp [liveStep, liveMix]; omega)]
      simp [hj]
  refine cntT_lt (i := i) (by simp [liveStep, liveMix, h]) (fun j hj => ?_) hh.1 ?_
  · rw [hget] at hj
    simp only [Bool.and_eq_true] at hj
    exact hj.1
  · rw [hget, hh.2]; simp

/-- so many steps -/
def liveN (next : List (List Nat)) : Nat → List Bool
  | 0 => List.replicate next.length true
  | k + 1 => liveStep next (liveN next k)
theorem liveN_length (next : List (List Nat)) : ∀ k, (liveN next k).length = next.length
  | 0 => by simp [liveN]
  | k + 1 => by simp [liveN, liveStep, liveMix]
theorem liveN_still {next : List (List Nat)} {k : Nat} (h : liveStep next (liveN next k) = liveN next k) : ∀ j, liveN next (k + j) = liveN next k
  | 0 => rfl
  | j + 1 => by rw [← Nat.add_assoc, liveN, liveN_still h j, h]
/-- the lively places -/
def livelyL (next : List (List Nat)) : List Bool := liveN next next.length
theorem livelyL_of {next : List (List Nat)} {k : Nat} (hk : cntT (liveN next k) + k ≤ next.length) (hg : goneL next (liveN next k) next.length = false) : liveN next k = livelyL next := by
  have := liveN_still (live_still (liveN_length next k) hg) (next.length - k)
  rw [show k + (next.length - k) = next.length by omega] at this
  exact this.symm
end Go.Cm

/- Shifts told by forbidden words: plain laws. No program in sight. -/
namespace Go.Cm

/-- one word is a part of another one -/
def occ (w f : List UInt8) : Bool := Go.Lib.contains w f
theorem occAt_iff (s f : List UInt8) (i : Nat) : Go.Lib.occAt s f i = true ↔ f <+: s.drop i := by
  unfold Go.Lib.occAt
  exact List.isPrefixOf_iff_prefix
theorem occ_iff (s f : List UInt8) : occ s f = true ↔ f <:+: s := by
  unfold occ Go.Lib.contains
  rw [decide_eq_true_iff]
  constructor
  · intro h
    rcases Go.Lib.index_spec s f with ⟨h1, _⟩ | ⟨i, _, _, h3, _⟩
    · omega
    · rw [occAt_iff] at h3
      exact h3.isInfix.trans (List.drop_suffix i s).isInfix
  · rintro ⟨a, b, rfl⟩
    rcases Go.Lib.index_spec (a ++ f ++ b) f with ⟨_, h2⟩ | ⟨i, h1, _⟩
    · have h3 := h2 a.length (by simp)
      have h4 : Go.Lib.occAt (a ++ f ++ b) f a.length = true := by
        rw [occAt_iff, List.append_assoc, List.drop_left]
        exact List.prefix_append f b
      rw [h3] at h4
      cases h4
    · omega
theorem occ_trans {a b c : List UInt8} (h1 : occ a b = true) (h2 : occ b c = true) : occ a c = true := by
  rw [occ_iff] at h1 h2 ⊢
  exact h2.trans h1
/-- at a place -/
def atB (s f : List UInt8) (i : Nat) : Bool := (s.drop i).take f.length == f
theorem occ_of_at {s f : List UInt8} {i : Nat} (h : atB s f i = true) : occ s f = true := by
  rw [occ_iff]
  have e : (s.drop i).take f.length = f := by simpa [atB] using h
  rw [← e]
  exact (List.take_prefix _ _).isInfix.trans (List.drop_suffix i s).isInfix
theorem occ_none {s f : List UInt8} (h : ∀ i, i + f.length ≤ s.length → atB s f i = false) : occ s f = false := by
  rw [Bool.eq_false_iff]
  intro ho
  rw [occ_iff] at ho
  obtain ⟨a, b, rfl⟩ := ho
  have h1 := h a.length (by simp)
  have h2 : atB (a ++ f ++ b) f a.length = true := by
    unfold atB
    rw [List.append_assoc, List.drop_left, List.take_left]
    simp
  rw [h1] at h2
  cases h2

/-- no forbidden word is a part -/
def avoidL (F : List (List UInt8)) (w : List UInt8) : Bool := F.all fun f => !occ w f
theorem avoidL_bad {F : List (List UInt8)} {w f : List UInt8} (hf : f ∈ F) (h : occ w f = true) : avoidL F w = false := by
  unfold avoidL
  rw [List.all_eq_false]
  exact ⟨f, hf, by rw [h]; simp⟩
theorem avoidL_part {F : List (List UInt8)} {u w : List UInt8} (h : avoidL F u = true) (ho : occ u w = true) : avoidL F w = true := by
  unfold avoidL at h ⊢
  rw [List.all_eq_true] at h ⊢
  intro f hf
  have := h f hf
  cases hw : occ w f with
  | false => rfl
  | true => rw [occ_trans ho hw] at this; exact this

/-- a pair of letters with another one behind it -/
def adjL (F : List (List UInt8)) (u v : List UInt8) : Bool := (u.getD 1 0 == v.getD 0 0) && avoidL F (u ++ v.drop 1)
/-- the avoiding words of a length -/
def avoidsN (K : Nat) (F : List (List UInt8)) (n : Nat) : List (List UInt8) := (wordsL K n).filter (avoidL F)
/-- the arcs between some pairs -/
def nextL (F : List (List UInt8)) (ps : List (List UInt8)) : List (List Nat) := ps.map fun u => (List.range ps.length).filter fun k => adjL F u (ps.getD k [])
theorem nextL_length (F ps : List (List UInt8)) : (nextL F ps).length = ps.length := by simp [nextL]
theorem nextL_at (F ps : List (List UInt8)) (a : Nat) (h : a < ps.length) : (nextL F ps).getD a [] = (List.range ps.length).filter fun k => adjL F (ps.getD a []) (ps.getD k []) := by
  unfold nextL
  rw [List.getD_eq_getElem?_getD, List.getElem?_map, List.getElem?_eq_getElem h]
  simp [List.getD_eq_getElem?_getD, List.getElem?_eq_getElem h]

/-- those of the first k that are marked -/
def keepTo (ps : List (List UInt8)) (l : List Bool) (k : Nat) : List (List UInt8) := ((List.range k).filter fun j => l.getD j false).map fun j => ps.getD j []
def keepL (ps : List (List UInt8)) (l : List Bool) : List (List UInt8) := keepTo ps l ps.length
theorem keepTo_zero (ps : List (List UInt8)) (l : List Bool) : keepTo ps l 0 = [] := rfl
theorem keepTo_yes {ps : List (List UInt8)} {l : List Bool} {k : Nat} (h : l.getD k false = true) : keepTo ps l (k + 1) = keepTo ps l k ++ [ps.getD k []] := by
  unfold keepTo
  rw [List.range_succ, List.filter_append, List.map_append, List.filter_cons_of_pos (by exact h)]
  rfl
theorem keepTo_no {ps : List (List UInt8)} {l : List Bool} {k : Nat} (h : l.getD k false = false) : keepTo ps l (k + 1) = keepTo ps l k := by
  unfold keepTo
  rw [List.range_succ, List.filter_append, List.map_append, List.filter_cons_of_neg (by rw [h]; simp)]
  exact List.append_nil _
theorem keepTo_length_le (ps : List (List UInt8)) (l : List Bool) (k : Nat) : (keepTo ps l k).length ≤ k := by
  unfold keepTo
  rw [List.length_map]
  have := List.length_filter_le (fun j => l.getD j false) (List.range k)
  rw [List.length_range] at this
  exact this
theorem keepTo_mem {ps : List (List UInt8)} {l : List Bool} {u : List UInt8} (h : u ∈ keepL ps l) : u ∈ ps := by
  unfold keepL keepTo at h
  obtain ⟨j, hj, rfl⟩ := List.mem_map.1 h
  have h1 := List.mem_range.1 (List.mem_filter.1 hj).1
  rw [List.getD_eq_getElem?_getD, List.getElem?_eq_getElem h1]
  exact List.getElem_mem h1
theorem keepL_any (ps : List (List UInt8)) (l : List Bool) (g : List UInt8 → Bool) : (keepL ps l).any g = true ↔ ∃ k, k < ps.length ∧ l.getD k false = true ∧ g (ps.getD k []) = true := by
  unfold keepL keepTo
  rw [List.any_eq_true]
  constructor
  · rintro ⟨x, hx, hg⟩
    obtain ⟨k, hk, rfl⟩ := List.mem_map.1 hx
    exact ⟨k, List.mem_range.1 (List.mem_filter.1 hk).1, (List.mem_filter.1 hk).2, hg⟩
  · rintro ⟨k, h1, h2, h3⟩
    exact ⟨_, List.mem_map.2 ⟨k, List.mem_filter.2 ⟨List.mem_range.2 h1, h2⟩, rfl⟩, h3⟩
/-- a pair has one behind it and one ahead of it in a list -/
def goesB (F out : List (List UInt8)) (u : List UInt8) : Bool := (out.any fun v => adjL F u v) && (out.any fun v => adjL F v u)

theorem liveStep_at (next : List (List Nat)) (l : List Bool) (k : Nat) (hk : k < next.length) : (liveStep next l).getD k false = (l.getD k false && stayB next l k) := by
  unfold liveStep liveMix
  rw [List.getD_eq_getElem?_getD, List.getElem?_map, List.getElem?_range hk]
  simp [hk]
theorem arcs_any (next : List (List Nat)) (n : Nat) (g : Nat × Nat → Bool) : (arcsTo next n).any g = true ↔ ∃ a j, a < n ∧ j ∈ next.getD a [] ∧ g (a, j) = true := by
  unfold arcsTo
  rw [List.any_eq_true]
  constructor
  · rintro ⟨p, hp, hg⟩
    obtain ⟨a, ha, hp⟩ := List.mem_flatMap.1 hp
    obtain ⟨j, hj, rfl⟩ := List.mem_map.1 hp
    exact ⟨a, j, List.mem_range.1 ha, hj, hg⟩
  · rintro ⟨a, j, h1, h2, h3⟩
    exact ⟨(a, j), List.mem_flatMap.2 ⟨a, List.mem_range.2 h1, List.mem_map.2 ⟨j, h2, rfl⟩⟩, h3⟩
theorem fromL_at (n : Nat) (l : List Bool) (P : List (Nat × Nat)) (k : Nat) (hk : k < n) : (fromL n l P).getD k false = P.any fun p => p.1 == k && onB l p := by
  unfold fromL
  rw [List.getD_eq_getElem?_getD, List.getElem?_map, List.getElem?_range hk]
  rfl
theorem toL_at (n : Nat) (l : List Bool) (P : List (Nat × Nat)) (k : Nat) (hk : k < n) : (toL n l P).getD k false = P.any fun p => p.2 == k && onB l p := by
  unfold toL
  rw [List.getD_eq_getElem?_getD, List.getElem?_map, List.getElem?_range hk]
  rfl

theorem stay_goes (F ps : List (List UInt8)) (l : List Bool) (k : Nat) (hk : k < ps.length) (hl : l.getD k false = true) : stayB (nextL F ps) l k = goesB F (keepL ps l) (ps.getD k []) := by
  unfold stayB goesB
  rw [nextL_length, fromL_at _ _ _ _ hk, toL_at _ _ _ _ hk]
  congr 1
  · rw [Bool.eq_iff_iff, arcs_any, keepL_any]
    constructor
    · rintro ⟨a, j, ha, hj, hg⟩
      rw [nextL_at F ps a ha] at hj
      have h1 := List.mem_range.1 (List.mem_filter.1 hj).1
      have h2 := (List.mem_filter.1 hj).2
      simp only [onB, Bool.and_eq_true, beq_iff_eq] at hg
      obtain ⟨rfl, _, h3⟩ := hg
      exact ⟨j, h1, h3, h2⟩
    · rintro ⟨j, h1, h2, h3⟩
      refine ⟨k, j, hk, ?_, ?_⟩
      · rw [nextL_at F ps k hk]
        exact List.mem_filter.2 ⟨List.mem_range.2 h1, h3⟩
      · simp only [onB, Bool.and_eq_true, beq_iff_eq]
        exact ⟨trivial, hl, h2⟩
  · rw [Bool.eq_iff_iff, arcs_any, keepL_any]
    constructor
    · rintro ⟨a, j, ha, hj, hg⟩
      rw [nextL_at F ps a ha] at hj
      have h2 := (List.mem_filter.1 hj).2
      simp only [onB, Bool.and_eq_true, beq_iff_eq] at hg
      obtain ⟨rfl, h3, _⟩ := hg
      exact ⟨a, ha, h3, h2⟩
    · rintro ⟨j, h1, h2, h3⟩
      refine ⟨j, k, h1, ?_, ?_⟩
      · rw [nextL_at F ps j h1]
        exact List.mem_filter.2 ⟨List.mem_range.2 hk, h3⟩
      · simp only [onB, Bool.and_eq_true, beq_iff_eq]
        exact ⟨trivial, h2, hl⟩

/-- one round of the reference's search -/
theorem keep_step (F ps : List (List UInt8)) (l : List Bool) : (keepL ps l).filter (goesB F (keepL ps l)) = keepL ps (liveStep (nextL F ps) l) := by
  have e : ∀ g : List UInt8 → Bool, (keepL ps l).filter g = ((List.range ps.length).filter fun j => l.getD j false && g (ps.getD j [])).map fun j => ps.getD j [] := by
    intro g
    unfold keepL keepTo
    rw [List.filter_map, List.filter_filter]
    congr 1
    apply List.filter_congr
    intro j _
    simp [Bool.and_comm]
  rw [e]
  unfold keepL keepTo
  congr 1
  apply List.filter_congr
  intro j hj
  have hj' := List.mem_range.1 hj
  rw [liveStep_at _ _ _ (by rw [nextL_length]; exact hj')]
  cases hl : l.getD j false with
  | false => rfl
  | true =>
    rw [stay_goes F ps l j hj' hl]
    rfl

theorem keepTo_cnt (ps : List (List UInt8)) (l : List Bool) : ∀ k, k ≤ l.length → (keepTo ps l k).length = cntT (l.take k)
  | 0, _ => by simp [keepTo, cntT]
  | k + 1, h => by
    have ih := keepTo_cnt ps l k (by omega)
    have ht : l.take (k + 1) = l.take k ++ [l.getD k false] := by
      rw [List.take_succ_eq_append_getElem (by omega), List.getD_eq_getElem?_getD, List.getElem?_eq_getElem (by omega)]
      rfl
    rw [ht]
    cases hl : l.getD k false with
    | false =>
      rw [keepTo_no hl, ih]
      simp [cntT]
    | true =>
      rw [keepTo_yes hl, List.length_append, ih]
      simp [cntT]
theorem keepL_cnt {ps : List (List UInt8)} {l : List Bool} (h : l.length = ps.length) : (keepL ps l).length = cntT l := by
  unfold keepL
  rw [← h, keepTo_cnt ps l l.length (Nat.le_refl _), List.take_length]
theorem liveN_keep_all (ps : List (List UInt8)) : keepL ps (List.replicate ps.length true) = ps := by
  unfold keepL keepTo
  rw [List.filter_eq_self.2 (fun j hj => by
    have := List.mem_range.1 hj
    simp [List.getD_eq_getElem?_getD, this])]
  apply List.ext_getElem
  · simp
  · intro i h1 h2
    simp [List.getD_eq_getElem?_getD, h2]

/-- the pairs that go on in both directions -/
def statesOf (F ps : List (List UInt8)) : List (List UInt8) := keepL ps (livelyL (nextL F ps))
def statesL (K : Nat) (F : List (List UInt8)) : List (List UInt8) := statesOf F (avoidsN K F 2)
theorem statesL_avoid {K : Nat} {F : List (List UInt8)} {u : List UInt8} (h : u ∈ statesL K F) : avoidL F u = true := (List.mem_filter.1 (keepTo_mem h)).2
theorem statesL_word {K : Nat} {F : List (List UInt8)} {u : List UInt8} (h : u ∈ statesL K F) : u ∈ wordsL K 2 := (List.mem_filter.1 (keepTo_mem h)).1
/-- the state of the reference's search -/
def PairSt (F ps : List (List UInt8)) (out : List (List UInt8)) : Prop := ∃ k, out = keepL ps (liveN (nextL F ps) k) ∧ cntT (liveN (nextL F ps) k) + k ≤ ps.length
theorem PairSt.start (F ps : List (List UInt8)) : PairSt F ps ps := by
  refine ⟨0, ?_, ?_⟩
  · unfold liveN
    rw [nextL_length]
    exact (liveN_keep_all ps).symm
  · have := cntT_le (liveN (nextL F ps) 0)
    rw [liveN_length, nextL_length] at this
    omega
theorem PairSt.step {F ps out : List (List UInt8)} (h : PairSt F ps out) :
    (out.filter (goesB F out)).length ≤ out.length ∧
    ((out.filter (goesB F out)).length = out.length → out = statesOf F ps) ∧
    (¬ (out.filter (goesB F out)).length = out.length → PairSt F ps (out.filter (goesB F out))) := by
  obtain ⟨k, rfl, hk⟩ := h
  have hlen := liveN_length (nextL F ps) k
  have hlen' : (liveN (nextL F ps) k).length = ps.length := by rw [hlen, nextL_length]
  have hs : (liveStep (nextL F ps) (liveN (nextL F ps) k)).length = ps.length := by
    have := liveN_length (nextL F ps) (k + 1)
    rw [nextL_length] at this
    exact this
  refine ⟨List.length_filter_le _ _, fun he => ?_, fun hne => ?_⟩
  · rw [keep_step, keepL_cnt hs, keepL_cnt hlen'] at he
    have hg : goneL (nextL F ps) (liveN (nextL F ps) k) (nextL F ps).length = false := by
      rw [Bool.eq_false_iff]
      intro hg
      have := live_less hlen hg
      omega
    rw [livelyL_of (k := k) (by rw [nextL_length]; exact hk) hg]
    rfl
  · refine ⟨k + 1, by rw [keep_step]; rfl, ?_⟩
    have hg : goneL (nextL F ps) (liveN (nextL F ps) k) (nextL F ps).length = true := by
      cases hg : goneL (nextL F ps) (liveN (nextL F ps) k) (nextL F ps).length with
      | true => rfl
      | false =>
        exfalso
        apply hne
        rw [keep_step, live_still hlen hg]
    have := live_less hlen hg
    show cntT (liveStep _ _) + (k + 1) ≤ _
    omega

/-- is a word in the language, for the states of a shift -/
def hasL (F st : List (List UInt8)) (w : List UInt8) : Bool :=
  if w.length < 2 then st.any fun u => occ u w
  else avoidL F w && ((st.any fun u => u == w.take 2) && (st.any fun u => u == w.drop (w.length - 2)))
/-- .. by the reference -/
def hasS (F st : List (List UInt8)) (w : List UInt8) : Bool :=
  if st.length = 0 ∨ avoidL F w = false then false
  else if w.length < 2 then st.any fun u => occ u w
  else (st.any fun u => u == w.take 2) && (st.any fun u => u == w.drop (w.length - 2))
theorem hasS_eq {F st : List (List UInt8)} (h : ∀ u ∈ st, avoidL F u = true) (w : List UInt8) : hasS F st w = hasL F st w := by
  unfold hasS hasL
  by_cases h0 : st.length = 0
  · have : st = [] := List.eq_nil_of_length_eq_zero h0
    subst this
    simp
  · by_cases ha : avoidL F w = false
    · rw [if_pos (Or.inr ha)]
      by_cases hw : w.length < 2
      · rw [if_pos hw]
        symm
        rw [List.any_eq_false]
        intro u hu ho
        rw [avoidL_part (h u hu) ho] at ha
        cases ha
      · rw [if_neg hw, ha]; rfl
    · rw [if_neg (by simp [h0, ha])]
      by_cases hw : w.length < 2
      · rw [if_pos hw, if_pos hw]
      · rw [if_neg hw, if_neg hw]
        have : avoidL F w = true := by simpa using ha
        rw [this, Bool.true_and]
/-- the words of a length in the language -/
def languageL (K : Nat) (F : List (List UInt8)) (n : Nat) : List (List UInt8) := (wordsL K n).filter (hasL F (statesL K F))

/-! ### valid shifts -/
def lessW (a b : List UInt8) : Bool := Go.Op.bytesLess a b
def shOkAt (L : Int) (F : List (List UInt8)) (k : Nat) : Bool := (areLet L (F.getD k []) && (decide (1 ≤ (F.getD k []).length) && decide ((F.getD k []).length ≤ 3))) && (decide (k = 0) || lessW (F.getD (k - 1) []) (F.getD k []))
def shiftOk (L : Int) (F : List (List UInt8)) : Bool := ((decide (1 ≤ L) && decide (L ≤ 3)) && decide (F.length ≤ 8)) && (List.range F.length).all (shOkAt L F)
theorem shiftOk_head {L : Int} {F : List (List UInt8)} (h : ¬ (1 ≤ L ∧ L ≤ 3) ∨ ¬ F.length ≤ 8) : shiftOk L F = false := by
  unfold shiftOk
  rcases h with h | h
  · have : (decide (1 ≤ L) && decide (L ≤ 3)) = false := by simp; omega
    rw [this]; rfl
  · rw [decide_eq_false h]; simp
theorem shiftOk_bad {L : Int} {F : List (List UInt8)} {k : Nat} (hk : k < F.length) (h : shOkAt L F k = false) : shiftOk L F = false := by
  unfold shiftOk
  rw [show (List.range F.length).all (shOkAt L F) = false by rw [List.all_eq_false]; exact ⟨k, List.mem_range.2 hk, by rw [h]; simp⟩, Bool.and_false]
theorem shiftOk_all {L : Int} {F : List (List UInt8)} (h : ∀ j, j < F.length → shOkAt L F j = true) : shiftOk L F = ((decide (1 ≤ L) && decide (L ≤ 3)) && decide (F.length ≤ 8)) := by
  unfold shiftOk
  rw [show (List.range F.length).all (shOkAt L F) = true by rw [List.all_eq_true]; intro j hj; exact h j (List.mem_range.1 hj), Bool.and_true]
/-- what a valid shift is -/
structure ShFit (K : Nat) (F : List (List UInt8)) : Prop where
  k1 : 1 ≤ K
  k3 : K ≤ 3
  n8 : F.length ≤ 8
  word : ∀ f ∈ F, areLet K f = true ∧ 1 ≤ f.length ∧ f.length ≤ 3
  asc : ∀ j, j + 1 < F.length → lessW (F.getD j []) (F.getD (j + 1) []) = true
theorem ShFit.of {L : Int} {F : List (List UInt8)} (h : shiftOk L F = true) : ∃ K : Nat, L = K ∧ ShFit K F := by
  unfold shiftOk at h
  simp only [Bool.and_eq_true, decide_eq_true_eq, List.all_eq_true] at h
  obtain ⟨⟨⟨h1, h2⟩, h3⟩, h4⟩ := h
  refine ⟨L.toNat, by omega, ⟨by omega, by omega, h3, fun f hf => ?_, fun j hj => ?_⟩⟩
  · obtain ⟨i, hi, rfl⟩ := List.mem_iff_getElem.1 hf
    have := h4 i (List.mem_range.2 hi)
    unfold shOkAt at this
    simp only [Bool.and_eq_true, decide_eq_true_eq, List.getD_eq_getElem?_getD, List.getElem?_eq_getElem hi, Option.getD_some] at this
    rw [show ((L.toNat : Nat) : Int) = L by omega]
    exact ⟨this.1.1, this.1.2.1, this.1.2.2⟩
  · have := h4 (j + 1) (List.mem_range.2 hj)
    unfold shOkAt at this
    simp only [Bool.and_eq_true, Bool.or_eq_true, decide_eq_true_eq] at this
    have h5 := this.2
    rcases h5 with h5 | h5
    · omega
    · simpa using h5
theorem ShFit.ok {K : Nat} {F : List (List UInt8)} (h : ShFit K F) : shiftOk K F = true := by
  have := h.k1
  have := h.k3
  rw [shiftOk_all fun j hj => ?_]
  · simp only [Bool.and_eq_true, decide_eq_true_eq]
    exact ⟨⟨by omega, by omega⟩, h.n8⟩
  · unfold shOkAt
    have hm : F.getD j [] ∈ F := by
      rw [List.getD_eq_getElem?_getD, List.getElem?_eq_getElem hj]
      exact List.getElem_mem hj
    obtain ⟨h1, h2, h3⟩ := h.word _ hm
    simp only [Bool.and_eq_true, Bool.or_eq_true, decide_eq_true_eq]
    refine ⟨⟨h1, h2, h3⟩, ?_⟩
    by_cases hj0 : j = 0
    · exact .inl hj0
    · right
      have := h.asc (j - 1) (by omega)
      rwa [show j - 1 + 1 = j by omega] at this
end Go.Cm

/- Codes on words. No program in sight. -/
namespace Go.Cm

/-- what a word is -/
def wordOk (k : Int) (s : ByteArray) : Bool := (decide (1 ≤ k) && decide (k ≤ 3)) && (decide (s.size ≤ 16) && areLet k s.data.toList)

/-- the index of a word -/
def idxL (k : Nat) (u : List UInt8) : Nat := u.foldl (fun n c => n * k + (c.toNat - 97)) 0
theorem idxL_snoc (k : Nat) (u : List UInt8) (c : UInt8) : idxL k (u ++ [c]) = idxL k u * k + (c.toNat - 97) := by simp [idxL]
theorem areLet_append (k : Int) (u v : List UInt8) : areLet k (u ++ v) = (areLet k u && areLet k v) := by simp [areLet]
theorem snoc_induction {p : List UInt8 → Prop} (h0 : p []) (hs : ∀ u c, p u → p (u ++ [c])) (u : List UInt8) : p u := by
  have : ∀ n (u : List UInt8), u.length = n → p u := by
    intro n
    induction n with
    | zero => intro u hu; have : u = [] := List.eq_nil_of_length_eq_zero hu; rw [this]; exact h0
    | succ n ih =>
      intro u hu
      have hne : u ≠ [] := by intro h; rw [h] at hu; simp at hu
      rw [← List.dropLast_concat_getLast hne]
      exact hs _ _ (ih _ (by rw [List.length_dropLast]; omega))
  exact this u.length u rfl
theorem idxL_lt (k : Nat) (u : List UInt8) : areLet k u = true → idxL k u < k ^ u.length := by
  refine snoc_induction (p := fun u => areLet k u = true → idxL k u < k ^ u.length) ?_ ?_ u
  · intro _; simp [idxL]
  · intro u c ih h
    rw [areLet_append] at h
    simp only [Bool.and_eq_true] at h
    have h1 := ih h.1
    have h2 : c.toNat - 97 < k := by
      have := h.2
      simp [areLet, isLet] at this
      omega
    rw [idxL_snoc, List.length_append, List.length_singleton, Nat.pow_succ]
    have h3 : (idxL k u + 1) * k ≤ k ^ u.length * k := Nat.mul_le_mul_right k h1
    rw [Nat.succ_mul] at h3
    omega

/-- the letter that a code gives to a word of its width -/
def givesL (K : Nat) (o : ByteArray) (u : List UInt8) : UInt8 := o.data.toList.getD (idxL K u) 0
/-- the part of a word -/
def partL (W i : Nat) (u : List UInt8) : List UInt8 := (u.drop i).take W
theorem partL_length {W i : Nat} {u : List UInt8} (h : i + W ≤ u.length) : (partL W i u).length = W := by simp [partL]; omega
theorem areLet_part {k : Int} {u : List UInt8} (W i : Nat) (h : areLet k u = true) : areLet k (partL W i u) = true := by
  unfold areLet at *
  rw [List.all_eq_true] at *
  intro c hc
  exact h c (List.mem_of_mem_drop (List.mem_of_mem_take hc))
/-- the letters for all parts -/
def applyL (K W : Nat) (o : ByteArray) (u : List UInt8) : List UInt8 := (List.range (u.length + 1 - W)).map fun i => givesL K o (partL W i u)
def applyTo (K W : Nat) (o : ByteArray) (u : List UInt8) (k : Nat) : List UInt8 := (List.range k).map fun i => givesL K o (partL W i u)
theorem applyTo_succ (K W : Nat) (o : ByteArray) (u : List UInt8) (k : Nat) : applyTo K W o u (k + 1) = applyTo K W o u k ++ [givesL K o (partL W k u)] := by simp [applyTo, List.range_succ]
theorem applyTo_length (K W : Nat) (o : ByteArray) (u : List UInt8) (k : Nat) : (applyTo K W o u k).length = k := by simp [applyTo]

theorem extract_part (s : ByteArray) (i W : Nat) : s.extract i (i + W) = mkS (partL W i s.data.toList) := by
  apply ByteArray.ext
  apply Array.ext'
  rw [Lib.extract_data, mkS_data]
  unfold partL
  rw [show i + W - i = W by omega]

/-- a code's parts -/
theorem codeOk_parts {L W : Int} {o : ByteArray} (h : codeOk L W o = true) : ∃ K n : Nat, L = K ∧ W = n ∧ 2 ≤ K ∧ K ≤ 3 ∧ 1 ≤ n ∧ n ≤ 4 ∧ K ^ n ≤ 27 ∧ o.size = K ^ n ∧ areLet K o.data.toList = true := by
  unfold codeOk at h
  simp only [Bool.and_eq_true, Bool.or_eq_true, decide_eq_true_eq] at h
  obtain ⟨hL, h1, h4, h27, hs, ha⟩ := h
  obtain ⟨K, rfl⟩ := Int.eq_ofNat_of_zero_le (show 0 ≤ L by omega)
  obtain ⟨n, rfl⟩ := Int.eq_ofNat_of_zero_le (show 0 ≤ W by omega)
  have hp : pw (K : Int) (n : Int) = ((K ^ n : Nat) : Int) := by simp [pw]
  rw [hp] at h27 hs
  exact ⟨K, n, rfl, rfl, by omega, by omega, by omega, by omega, by omega, by omega, ha⟩
end Go.Cm
namespace Go.Cm
theorem isLet_getD {k : Int} {l : List UInt8} (h : areLet k l = true) {i : Nat} (hi : i < l.length) : isLet k (l.getD i 0) = true := by
  unfold areLet at h
  rw [List.all_eq_true] at h
  rw [List.getD_eq_getElem?_getD, List.getElem?_eq_getElem hi]
  exact h _ (List.getElem_mem _)
theorem areLet_apply {K n : Nat} {o : ByteArray} (hos : o.size = K ^ n) (hoa : areLet K o.data.toList = true) {u : List UInt8} (hu : areLet K u = true) : areLet K (applyL K n o u) = true := by
  unfold areLet
  rw [List.all_eq_true]
  intro c hc
  simp only [applyL, List.mem_map, List.mem_range] at hc
  obtain ⟨i, hi, rfl⟩ := hc
  refine isLet_getD hoa ?_
  have hpl : (partL n i u).length = n := partL_length (by omega)
  have := idxL_lt K (partL n i u) (areLet_part n i hu)
  rw [hpl, ← hos] at this
  simpa using this
theorem applyL_length (K n : Nat) (o : ByteArray) (u : List UInt8) : (applyL K n o u).length = u.length + 1 - n := by simp [applyL]
theorem areLet_wordL (K : Nat) (hK0 : 0 < K) (hK : K ≤ 3) : ∀ n i, areLet K (wordL K n i) = true
  | 0, _ => rfl
  | n + 1, i => by
    have hm : i % K < K := Nat.mod_lt _ hK0
    rw [wordL, areLet_append, areLet_wordL K hK0 hK n]
    have h2 : ((letN (i % K)).toNat : Int) = ((97 + i % K : Nat) : Int) := by unfold letN; exact ofNat_toNat (by omega)
    simp [areLet, isLet, h2]
    omega
theorem mem_wordsL {K n : Nat} {u : List UInt8} (h : u ∈ wordsL K n) (hK0 : 0 < K) (hK : K ≤ 3) : u.length = n ∧ areLet K u = true := by
  simp only [wordsL, List.mem_map] at h
  obtain ⟨i, _, rfl⟩ := h
  exact ⟨wordL_length K n i, areLet_wordL K hK0 hK n i⟩
/-- a code behind another one -/
def composeL (K m : Nat) (o o' : ByteArray) (u : List UInt8) : UInt8 := givesL K o (applyL K m o' u)
end Go.Cm

/- Counts of sources by their last letters. No program in sight. -/
namespace Go.Cm

/-- numbers as cells -/
def ncells (l : List Nat) : List Value := l.map fun x : Nat => Value.int .i64 (x : Int)
theorem ncells_length (l : List Nat) : (ncells l).length = l.length := by simp [ncells]
theorem ncells_at (l : List Nat) (j : Nat) (h : j < l.length) : (ncells l)[j]'(by rw [ncells_length]; exact h) = .int .i64 ((l.getD j 0 : Nat) : Int) := by
  simp [ncells, List.getD_eq_getElem?_getD, List.getElem?_eq_getElem h]
theorem ncells_set (l : List Nat) (j x : Nat) : (ncells l).set j (.int .i64 (x : Int)) = ncells (l.set j x) := by simp [ncells, List.map_set]
theorem ncells_replicate (n x : Nat) : ncells (List.replicate n x) = List.replicate n (.int .i64 (x : Int)) := by simp [ncells]

def hitL (K n : Nat) (o : ByteArray) (c : UInt8) (now : List Nat) (v : Nat) (nx : List Nat) (x : Nat) : List Nat :=
  if o.data.toList.getD (v * K + x) 0 = c then nx.set ((v * K + x) % n) (nx.getD ((v * K + x) % n) 0 + now.getD v 0) else nx
def rowH (K n : Nat) (o : ByteArray) (c : UInt8) (now : List Nat) (v : Nat) (nx : List Nat) (a : Nat) : List Nat := (List.range a).foldl (hitL K n o c now v) nx
def allH (K n : Nat) (o : ByteArray) (c : UInt8) (now : List Nat) (b : Nat) : List Nat := (List.range b).foldl (fun nx v => rowH K n o c now v nx K) (List.replicate n 0)
def stepC (K n : Nat) (o : ByteArray) (now : List Nat) (c : UInt8) : List Nat := allH K n o c now n
def countC (K n : Nat) (o : ByteArray) (u : List UInt8) : List Nat := u.foldl (stepC K n o) (List.replicate n 1)

theorem rowH_zero (K n : Nat) (o : ByteArray) (c : UInt8) (now : List Nat) (v : Nat) (nx : List Nat) : rowH K n o c now v nx 0 = nx := rfl
theorem rowH_succ (K n : Nat) (o : ByteArray) (c : UInt8) (now : List Nat) (v : Nat) (nx : List Nat) (a : Nat) : rowH K n o c now v nx (a + 1) = hitL K n o c now v (rowH K n o c now v nx a) a := by simp [rowH, List.range_succ]
theorem allH_zero (K n : Nat) (o : ByteArray) (c : UInt8) (now : List Nat) : allH K n o c now 0 = List.replicate n 0 := rfl
theorem allH_succ (K n : Nat) (o : ByteArray) (c : UInt8) (now : List Nat) (b : Nat) : allH K n o c now (b + 1) = rowH K n o c now b (allH K n o c now b) K := by simp [allH, List.range_succ]
theorem countC_snoc (K n : Nat) (o : ByteArray) (u : List UInt8) (c : UInt8) : countC K n o (u ++ [c]) = stepC K n o (countC K n o u) c := by simp [countC]

theorem hitL_length (K n : Nat) (o : ByteArray) (c : UInt8) (now : List Nat) (v : Nat) (nx : List Nat) (x : Nat) : (hitL K n o c now v nx x).length = nx.length := by unfold hitL; split <;> simp
theorem rowH_length (K n : Nat) (o : ByteArray) (c : UInt8) (now : List Nat) (v : Nat) (nx : List Nat) (a : Nat) : (rowH K n o c now v nx a).length = nx.length := by
  induction a with
  | zero => rfl
  | succ a ih => rw [rowH_succ, hitL_length, ih]
theorem allH_length (K n : Nat) (o : ByteArray) (c : UInt8) (now : List Nat) (b : Nat) : (allH K n o c now b).length = n := by
  induction b with
  | zero => simp [allH_zero]
  | succ b ih => rw [allH_succ, rowH_length, ih]
theorem countC_length (K n : Nat) (o : ByteArray) (u : List UInt8) : (countC K n o u).length = n := by
  refine snoc_induction (p := fun u => (countC K n o u).length = n) ?_ ?_ u
  · simp [countC]
  · intro u c _; rw [countC_snoc]; exact allH_length ..

/-- all entries are at most so great -/
def Bnd (M : Nat) (l : List Nat) : Prop := ∀ j, l.getD j 0 ≤ M
theorem Bnd.mono {M M' : Nat} {l : List Nat} (h : Bnd M l) (hm : M ≤ M') : Bnd M' l := fun j => Nat.le_trans (h j) hm
theorem Bnd.set {M : Nat} {l : List Nat} (h : Bnd M l) (i x : Nat) (hx : x ≤ M) : Bnd M (l.set i x) := by
  intro j
  rw [List.getD_eq_getElem?_getD, List.getElem?_set]
  have := h j
  rw [List.getD_eq_getElem?_getD] at this
  split
  · split
    · simpa using hx
    · simp
  · exact this
theorem Bnd.replicate (n x : Nat) : Bnd x (List.replicate n x) := by
  intro j
  rw [List.getD_eq_getElem?_getD, List.getElem?_replicate]
  split <;> simp
theorem hitL_bnd {K n : Nat} {o : ByteArray} {c : UInt8} {now : List Nat} {v : Nat} {nx : List Nat} {x M B : Nat} (h : Bnd M nx) (hb : Bnd B now) : Bnd (M + B) (hitL K n o c now v nx x) := by
  unfold hitL
  split
  · exact (h.mono (by omega)).set _ _ (Nat.add_le_add (h _) (hb _))
  · exact h.mono (by omega)
theorem rowH_bnd {K n : Nat} {o : ByteArray} {c : UInt8} {now : List Nat} {v : Nat} {nx : List Nat} {M B : Nat} (h : Bnd M nx) (hb : Bnd B now) : ∀ a, Bnd (M + a * B) (rowH K n o c now v nx a)
  | 0 => by simpa [rowH_zero] using h
  | a + 1 => by
    rw [rowH_succ, Nat.succ_mul, ← Nat.add_assoc]
    exact hitL_bnd (rowH_bnd h hb a) hb
theorem allH_bnd {K n : Nat} {o : ByteArray} {c : UInt8} {now : List Nat} {B : Nat} (hb : Bnd B now) : ∀ b, Bnd (b * (K * B)) (allH K n o c now b)
  | 0 => by rw [allH_zero]; exact (Bnd.replicate n 0).mono (by omega)
  | b + 1 => by
    rw [allH_succ, Nat.succ_mul]
    exact rowH_bnd (allH_bnd hb b) hb K
theorem countC_bnd {K n : Nat} (hnK : n * K ≤ 27) (o : ByteArray) (u : List UInt8) : Bnd (27 ^ u.length) (countC K n o u) := by
  refine snoc_induction (p := fun u => Bnd (27 ^ u.length) (countC K n o u)) ?_ ?_ u
  · simpa [countC] using Bnd.replicate n 1
  · intro u c ih
    rw [countC_snoc, List.length_append, List.length_singleton, Nat.pow_succ]
    refine (allH_bnd ih n).mono ?_
    rw [← Nat.mul_assoc, Nat.mul_comm (27 ^ u.length)]
    exact Nat.mul_le_mul_right _ hnK
theorem pow27_le {k : Nat} (h : k ≤ 8) : 27 ^ k ≤ 282429536481 := by
  have h1 : 27 ^ k ≤ 27 ^ 8 := Nat.pow_le_pow_right (by omega) h
  have h2 : (27 : Nat) ^ 8 = 282429536481 := by decide
  omega
/-- the sum of the first entries -/
def sumTo (l : List Nat) (k : Nat) : Nat := (l.take k).sum
theorem sumTo_succ (l : List Nat) (k : Nat) (h : k < l.length) : sumTo l (k + 1) = sumTo l k + l.getD k 0 := by
  unfold sumTo
  rw [List.take_succ_eq_append_getElem h, List.sum_append, List.getD_eq_getElem?_getD, List.getElem?_eq_getElem h]
  simp
theorem sumTo_all (l : List Nat) : sumTo l l.length = l.sum := by simp [sumTo]
theorem sumTo_le {M : Nat} {l : List Nat} (h : Bnd M l) : ∀ k, sumTo l k ≤ k * M
  | 0 => by simp [sumTo]
  | k + 1 => by
    have ih := sumTo_le h k
    by_cases hk : k < l.length
    · rw [sumTo_succ l k hk, Nat.succ_mul]
      exact Nat.add_le_add ih (h k)
    · have e : sumTo l (k + 1) = sumTo l k := by unfold sumTo; rw [List.take_of_length_le (by omega), List.take_of_length_le (by omega)]
      rw [e, Nat.succ_mul]; omega
end Go.Cm

/- Plain laws on lists and tables of numbers: what the program and the reference both reckon. No dump is imported. -/
namespace Go.Mx
open Go

/-! ### lists looked through from the front -/
theorem all_snoc {α : Type} (p : α → Bool) (l : List α) (k : Nat) (d : α) (hk : k < l.length) : (l.take (k + 1)).all p = ((l.take k).all p && p (l.getD k d)) := by
  rw [List.take_succ_eq_append_getElem hk, List.all_append]
  simp [List.getD_eq_getElem?_getD, List.getElem?_eq_getElem hk]
theorem all_next {α : Type} {p : α → Bool} {l : List α} {k : Nat} (d : α) (hk : k < l.length) (h : (l.take k).all p = true) (h2 : p (l.getD k d) = true) : (l.take (k + 1)).all p = true := by
  rw [all_snoc p l k d hk, h, h2]; rfl
theorem all_bad {α : Type} {p : α → Bool} {l : List α} {k : Nat} (d : α) (hk : k < l.length) (h : p (l.getD k d) = false) : l.all p = false := by
  rw [List.getD_eq_getElem?_getD, List.getElem?_eq_getElem hk] at h
  rw [List.all_eq_false]
  exact ⟨l[k], List.getElem_mem hk, by simpa using h⟩
theorem all_done {α : Type} {p : α → Bool} {l : List α} (h : (l.take l.length).all p = true) : l.all p = true := by rwa [List.take_length] at h
theorem all_at {α : Type} {p : α → Bool} {l : List α} (h : l.all p = true) (i : Nat) (d : α) (hi : i < l.length) : p (l.getD i d) = true := by
  rw [List.getD_eq_getElem?_getD, List.getElem?_eq_getElem hi]
  exact List.all_eq_true.1 h _ (List.getElem_mem hi)

/-! ### matrices -/
def rowOk (n : Nat) (r : List Int) : Bool := decide (r.length = n) && r.all fun x => decide (0 ≤ x ∧ x ≤ 1000000)
def isMat (m : List (List Int)) : Bool := decide (1 ≤ m.length ∧ m.length ≤ 9) && m.all (rowOk m.length)
def lowOk (r : List Int) : Bool := r.all fun x => decide (x ≤ 9)
def isSm (m : List (List Int)) : Bool := isMat m && (decide (m.length ≤ 4) && m.all lowOk)

/-- what is known of a matrix -/
structure IsM (n : Nat) (m : List (List Int)) : Prop where
  len : m.length = n
  pos : 1 ≤ n
  le : n ≤ 9
  row : ∀ i, i < n → (m.getD i []).length = n
  low : ∀ i j, 0 ≤ (m.getD i []).getD j 0
  high : ∀ i j, (m.getD i []).getD j 0 ≤ 1000000

theorem getD_mem_or {α : Type} (l : List α) (i : Nat) (d : α) : l.getD i d ∈ l ∨ l.getD i d = d := by
  by_cases h : i < l.length
  · left; rw [List.getD_eq_getElem?_getD, List.getElem?_eq_getElem h]; exact List.getElem_mem h
  · right; rw [List.getD_eq_getElem?_getD, List.getElem?_eq_none (by omega)]; rfl

theorem isMat_yes {m : List (List Int)} (h : isMat m = true) : IsM m.length m := by
  simp only [isMat, Bool.and_eq_true, decide_eq_true_eq, List.all_eq_true, rowOk] at h
  obtain ⟨⟨h1, h2⟩, h3⟩ := h
  have hx : ∀ i j, 0 ≤ (m.getD i []).getD j 0 ∧ (m.getD i []).getD j 0 ≤ 1000000 := by
    intro i j
    rcases getD_mem_or m i [] with hm | hm
    · rcases getD_mem_or (m.getD i []) j 0 with hj | hj
      · exact (h3 _ hm).2 _ hj
      · rw [hj]; omega
    · rw [hm]; simp
  refine ⟨rfl, h1, h2, fun i hi => ?_, fun i j => (hx i j).1, fun i j => (hx i j).2⟩
  have hm : m.getD i [] ∈ m := by rw [List.getD_eq_getElem?_getD, List.getElem?_eq_getElem hi]; exact List.getElem_mem hi
  exact (h3 _ hm).1
theorem isSm_yes {m : List (List Int)} (h : isSm m = true) : IsM m.length m ∧ m.length ≤ 4 ∧ ∀ i j, (m.getD i []).getD j 0 ≤ 9 := by
  simp only [isSm, Bool.and_eq_true, decide_eq_true_eq] at h
  obtain ⟨h1, h2, h3⟩ := h
  refine ⟨isMat_yes h1, h2, fun i j => ?_⟩
  simp only [List.all_eq_true, lowOk, decide_eq_true_eq] at h3
  rcases getD_mem_or m i [] with hm | hm
  · rcases getD_mem_or (m.getD i []) j 0 with hj | hj
    · exact h3 _ hm _ hj
    · rw [hj]; omega
  · rw [hm]; simp

theorem rowOk_len {n : Nat} {r : List Int} (h : ¬ r.length = n) : rowOk n r = false := by simp [rowOk, h]
theorem rowOk_of {n : Nat} {r : List Int} (h : r.length = n) : rowOk n r = r.all fun x => decide (0 ≤ x ∧ x ≤ 1000000) := by simp [rowOk, h]
theorem isMat_size {m : List (List Int)} (h : ¬ (1 ≤ m.length ∧ m.length ≤ 9)) : isMat m = false := by
  unfold isMat
  rw [decide_eq_false h]; rfl
theorem isMat_row {m : List (List Int)} {k : Nat} (hk : k < m.length) (h : rowOk m.length (m.getD k []) = false) : isMat m = false := by
  unfold isMat
  rw [all_bad (p := rowOk m.length) [] hk h, Bool.and_false]
theorem isMat_all {m : List (List Int)} (h : 1 ≤ m.length ∧ m.length ≤ 9) (h2 : (m.take m.length).all (rowOk m.length) = true) : isMat m = true := by
  unfold isMat
  rw [decide_eq_true h, all_done h2]; rfl

/-! ### sums -/
theorem sum_take_succ (xs : List Int) (k : Nat) (h : k < xs.length) : (xs.take (k + 1)).sum = (xs.take k).sum + xs.getD k 0 := by
  rw [List.take_succ_eq_append_getElem h, List.sum_append]
  simp [List.getD_eq_getElem?_getD, List.getElem?_eq_getElem h]
theorem sum_take_bd (xs : List Int) (b : Int) (hb : 0 ≤ b) (h : ∀ j, -b ≤ xs.getD j 0 ∧ xs.getD j 0 ≤ b) (k : Nat) : -(b * (k : Int)) ≤ (xs.take k).sum ∧ (xs.take k).sum ≤ b * (k : Int) := by
  induction k with
  | zero => simp
  | succ k ih =>
    by_cases hk : k < xs.length
    · rw [sum_take_succ xs k hk]
      have := h k
      have e : b * ((k + 1 : Nat) : Int) = b * (k : Int) + b := by rw [show ((k + 1 : Nat) : Int) = (k : Int) + 1 by omega, Int.mul_add, Int.mul_one]
      omega
    · rw [List.take_of_length_le (by omega)]
      rw [List.take_of_length_le (by omega)] at ih
      have e : b * ((k + 1 : Nat) : Int) = b * (k : Int) + b := by rw [show ((k + 1 : Nat) : Int) = (k : Int) + 1 by omega, Int.mul_add, Int.mul_one]
      omega
theorem sum_take_pos (xs : List Int) (b : Int) (hb : 0 ≤ b) (h : ∀ j, 0 ≤ xs.getD j 0 ∧ xs.getD j 0 ≤ b) (k : Nat) : 0 ≤ (xs.take k).sum ∧ (xs.take k).sum ≤ b * (k : Int) := by
  refine ⟨?_, (sum_take_bd xs b hb (fun j => by have := h j; omega) k).2⟩
  induction k with
  | zero => simp
  | succ k ih =>
    by_cases hk : k < xs.length
    · rw [sum_take_succ xs k hk]
      have := h k
      omega
    · rw [List.take_of_length_le (by omega)]
      rw [List.take_of_length_le (by omega)] at ih
      exact ih

/-! ### determinants -/
def sgn (j : Nat) : Int := if j % 2 = 0 then 1 else -1
theorem sgn_zero : sgn 0 = 1 := rfl
theorem sgn_succ (j : Nat) : sgn (j + 1) = - sgn j := by
  unfold sgn
  rcases Nat.mod_two_eq_zero_or_one j with h | h
  · rw [if_pos h, if_neg (show ¬ (j + 1) % 2 = 0 by omega)]
  · rw [if_neg (show ¬ j % 2 = 0 by omega), if_pos (show (j + 1) % 2 = 0 by omega)]; rfl
theorem sgn_or (j : Nat) : sgn j = 1 ∨ sgn j = -1 := by unfold sgn; split <;> simp
def minor (t : List (List Int)) (j : Nat) : List (List Int) := (t.drop 1).map fun r => r.eraseIdx j
/-- the determinant of a table of n rows -/
def detL : Nat → List (List Int) → Int
  | 0, _ => 1
  | n + 1, t => ((List.range (n + 1)).map fun j => sgn j * (t.getD 0 []).getD j 0 * detL n (minor t j)).sum
/-- .. up to a column -/
def detTo (n : Nat) (t : List (List Int)) (k : Nat) : Int := ((List.range k).map fun j => sgn j * (t.getD 0 []).getD j 0 * detL n (minor t j)).sum
theorem detTo_zero (n : Nat) (t : List (List Int)) : detTo n t 0 = 0 := rfl
theorem detTo_succ (n : Nat) (t : List (List Int)) (k : Nat) : detTo n t (k + 1) = detTo n t k + sgn k * (t.getD 0 []).getD k 0 * detL n (minor t k) := by
  unfold detTo
  rw [List.range_succ, List.map_append, List.sum_append]
  simp
theorem detTo_all (n : Nat) (t : List (List Int)) : detTo n t (n + 1) = detL (n + 1) t := rfl

/-- a square table of numbers within a bound -/
structure Sq (n : Nat) (b : Int) (t : List (List Int)) : Prop where
  len : t.length = n
  row : ∀ i, i < n → (t.getD i []).length = n
  low : ∀ i j, -b ≤ (t.getD i []).getD j 0
  high : ∀ i j, (t.getD i []).getD j 0 ≤ b

theorem minor_at (t : List (List Int)) (j i : Nat) : (minor t j).getD i [] = (t.getD (i + 1) []).eraseIdx j := by
  unfold minor
  rw [List.getD_eq_getElem?_getD, List.getElem?_map, List.getElem?_drop, List.getD_eq_getElem?_getD, Nat.add_comm 1 i]
  cases h : t[i + 1]? with
  | none => simp
  | some r => simp
theorem minor_length (t : List (List Int)) (j : Nat) : (minor t j).length = t.length - 1 := by simp [minor]
theorem eraseIdx_getD (r : List Int) (j k : Nat) : (r.eraseIdx j).getD k 0 = if k < j then r.getD k 0 else r.getD (k + 1) 0 := by
  rw [List.getD_eq_getElem?_getD, List.getElem?_eraseIdx]
  split <;> simp [List.getD_eq_getElem?_getD]
theorem Sq.minor {n : Nat} {b : Int} {t : List (List Int)} (h : Sq (n + 1) b t) (j : Nat) (hj : j < n + 1) : Sq n b (minor t j) := by
  refine ⟨by rw [minor_length, h.len]; rfl, fun i hi => ?_, fun i k => ?_, fun i k => ?_⟩
  · rw [minor_at, List.length_eraseIdx, h.row (i + 1) (by omega), if_pos hj]; rfl
  · rw [minor_at, eraseIdx_getD]; split
    · exact h.low _ _
    · exact h.low _ _
  · rw [minor_at, eraseIdx_getD]; split
    · exact h.high _ _
    · exact h.high _ _

/-- how great a determinant may be -/
def detB (b : Int) : Nat → Int
  | 0 => 1
  | n + 1 => ((n + 1 : Nat) : Int) * (b * detB b n)
theorem detB_nn {b : Int} (hb : 0 ≤ b) : ∀ n, 0 ≤ detB b n
  | 0 => by simp [detB]
  | n + 1 => by unfold detB; exact Int.mul_nonneg (by omega) (Int.mul_nonneg hb (detB_nn hb n))
theorem mul_bd {x y a b : Int} (hx1 : -a ≤ x) (hx2 : x ≤ a) (hy1 : -b ≤ y) (hy2 : y ≤ b) : -(a * b) ≤ x * y ∧ x * y ≤ a * b := by
  have ha : 0 ≤ a := by omega
  have hb : 0 ≤ b := by omega
  have h : (x * y).natAbs ≤ (a * b).natAbs := by
    rw [Int.natAbs_mul, Int.natAbs_mul]
    exact Nat.mul_le_mul (by omega) (by omega)
  have hab : 0 ≤ a * b := Int.mul_nonneg ha hb
  omega
theorem sgn_mul_bd {x a : Int} (j : Nat) (h1 : -a ≤ x) (h2 : x ≤ a) : -a ≤ sgn j * x ∧ sgn j * x ≤ a := by
  rcases sgn_or j with h | h <;> rw [h] <;> omega
theorem detTo_bd_of {n : Nat} {b D : Int} {t : List (List Int)} (hb : 0 ≤ b) (hD : 0 ≤ D) (hlow : ∀ j, -b ≤ (t.getD 0 []).getD j 0) (hhigh : ∀ j, (t.getD 0 []).getD j 0 ≤ b) (K : Nat) (hd : ∀ j, j < K → -D ≤ detL n (Mx.minor t j) ∧ detL n (Mx.minor t j) ≤ D) :
    ∀ k, k ≤ K → -((k : Int) * (b * D)) ≤ detTo n t k ∧ detTo n t k ≤ (k : Int) * (b * D)
  | 0, _ => by simp [detTo_zero]
  | k + 1, hk => by
    have ih := detTo_bd_of hb hD hlow hhigh K hd k (by omega)
    rw [detTo_succ]
    have h1 := sgn_mul_bd k (hlow k) (hhigh k)
    have h2 := hd k (by omega)
    have h3 := mul_bd h1.1 h1.2 h2.1 h2.2
    have e : ((k + 1 : Nat) : Int) * (b * D) = (k : Int) * (b * D) + b * D := by rw [show ((k + 1 : Nat) : Int) = (k : Int) + 1 by omega, Int.add_mul, Int.one_mul]
    omega
theorem detL_bd {b : Int} (hb : 0 ≤ b) : ∀ {n : Nat} {t : List (List Int)}, Sq n b t → -(detB b n) ≤ detL n t ∧ detL n t ≤ detB b n
  | 0, _, _ => by simp [detL, detB]
  | n + 1, t, h => detTo_bd_of hb (detB_nn hb n) (h.low 0) (h.high 0) (n + 1) (fun j hj => detL_bd hb (h.minor j hj)) (n + 1) (Nat.le_refl _)
theorem detTo_bd {b : Int} (hb : 0 ≤ b) {n : Nat} {t : List (List Int)} (h : Sq (n + 1) b t) (k : Nat) (hk : k ≤ n + 1) : -((k : Int) * (b * detB b n)) ≤ detTo n t k ∧ detTo n t k ≤ (k : Int) * (b * detB b n) :=
  detTo_bd_of hb (detB_nn hb n) (h.low 0) (h.high 0) (n + 1) (fun j hj => detL_bd hb (h.minor j hj)) k hk
theorem detB_4 {n : Nat} (h : n ≤ 4) : detB 10000 n ≤ 240000000000000000 := by
  match n, h with
  | 0, _ => decide
  | 1, _ => decide
  | 2, _ => decide
  | 3, _ => decide
  | 4, _ => decide
theorem IsM.sq {n : Nat} {m : List (List Int)} (h : IsM n m) : Sq n 1000000 m := ⟨h.len, h.row, fun i j => by have := h.low i j; omega, h.high⟩
theorem Sq.mono {n : Nat} {b c : Int} {t : List (List Int)} (h : Sq n b t) (hb : b ≤ c) : Sq n c t := ⟨h.len, h.row, fun i j => by have := h.low i j; omega, fun i j => by have := h.high i j; omega⟩
end Go.Mx
namespace Go.Mx
theorem isSm_noMat {m : List (List Int)} (h : isMat m = false) : isSm m = false := by unfold isSm; rw [h]; rfl
theorem isSm_long {m : List (List Int)} (h : ¬ m.length ≤ 4) : isSm m = false := by unfold isSm; rw [decide_eq_false h]; simp
theorem isSm_bad {m : List (List Int)} {k : Nat} (hk : k < m.length) (h : lowOk (m.getD k []) = false) : isSm m = false := by
  unfold isSm; rw [all_bad (p := lowOk) [] hk h]; simp
theorem isSm_all {m : List (List Int)} (h : isMat m = true) (h4 : m.length ≤ 4) (h2 : (m.take m.length).all lowOk = true) : isSm m = true := by
  unfold isSm; rw [h, decide_eq_true h4, all_done h2]; rfl
theorem isSm_of {m : List (List Int)} (h2 : (m.take m.length).all lowOk = true) : isSm m = (isMat m && decide (m.length ≤ 4)) := by
  unfold isSm; rw [all_done h2]; simp
theorem lowOk_bad {r : List Int} {j : Nat} (hj : j < r.length) (h : 9 < r.getD j 0) : lowOk r = false := all_bad (p := fun x => decide (x ≤ 9)) 0 hj (by simpa using h)
theorem lowOk_next {r : List Int} {j : Nat} (hj : j < r.length) (hq : (r.take j).all (fun x => decide (x ≤ 9)) = true) (h : r.getD j 0 ≤ 9) : (r.take (j + 1)).all (fun x => decide (x ≤ 9)) = true := all_next (p := fun x => decide (x ≤ 9)) 0 hj hq (by simpa using h)
end Go.Mx
namespace Go.Mx
/-- the least and the greatest of the first values -/
def minTo (f : Nat → Int) : Nat → Int
  | 0 => f 0
  | k + 1 => min (minTo f k) (f k)
def maxTo (f : Nat → Int) : Nat → Int
  | 0 => f 0
  | k + 1 => max (maxTo f k) (f k)
def rowS (m : List (List Int)) (i : Nat) : Int := (m.getD i []).sum
def minFrom (f : Nat → Int) (k : Nat) : Int := if k = 0 then 0 else minTo f k
def maxFrom (f : Nat → Int) (k : Nat) : Int := if k = 0 then 0 else maxTo f k
theorem minFrom_one (f : Nat → Int) : minFrom f 1 = f 0 := by simp [minFrom, minTo]
theorem minFrom_hit (f : Nat → Int) (k : Nat) (hk : 0 < k) (h : f k < minFrom f k) : minFrom f (k + 1) = f k := by
  unfold minFrom at h ⊢
  rw [if_neg (by omega)] at h
  rw [if_neg (by omega), minTo]; omega
theorem minFrom_miss (f : Nat → Int) (k : Nat) (hk : 0 < k) (h : ¬ f k < minFrom f k) : minFrom f (k + 1) = minFrom f k := by
  unfold minFrom at h ⊢
  rw [if_neg (by omega)] at h
  rw [if_neg (by omega), if_neg (by omega), minTo]; omega
theorem maxFrom_succ (f : Nat → Int) (k : Nat) (h : 0 ≤ f 0) : maxFrom f (k + 1) = max (maxFrom f k) (f k) := by
  unfold maxFrom
  rw [if_neg (by omega)]
  cases k with
  | zero => simp [maxTo]; omega
  | succ k => rw [if_neg (by omega)]; rfl
theorem minFrom_n (f : Nat → Int) (n : Nat) (h : 1 ≤ n) : minFrom f n = minTo f n := by unfold minFrom; rw [if_neg (by omega)]
theorem maxFrom_n (f : Nat → Int) (n : Nat) (h : 1 ≤ n) : maxFrom f n = maxTo f n := by unfold maxFrom; rw [if_neg (by omega)]
theorem minTo_bd {f : Nat → Int} (h : ∀ i, 0 ≤ f i ∧ f i ≤ 1000000000) : ∀ k, 0 ≤ minTo f k ∧ minTo f k ≤ 1000000000
  | 0 => h 0
  | k + 1 => by have := minTo_bd h k; have := h k; simp only [minTo]; omega
theorem maxTo_bd {f : Nat → Int} (h : ∀ i, 0 ≤ f i ∧ f i ≤ 1000000000) : ∀ k, 0 ≤ maxTo f k ∧ maxTo f k ≤ 1000000000
  | 0 => h 0
  | k + 1 => by have := maxTo_bd h k; have := h k; simp only [maxTo]; omega
theorem IsM.rowS_bd {n : Nat} {m : List (List Int)} (h : IsM n m) (i : Nat) : 0 ≤ rowS m i ∧ rowS m i ≤ 1000000000 := by
  have h1 := sum_take_pos (m.getD i []) 1000000 (by omega) (fun j => ⟨h.low i j, h.high i j⟩) (m.getD i []).length
  rw [List.take_length] at h1
  have h2 : (m.getD i []).length ≤ 9 := by
    by_cases hi : i < n
    · rw [h.row i hi]; exact h.le
    · have : m.getD i [] = [] := by rw [List.getD_eq_getElem?_getD, List.getElem?_eq_none (by rw [h.len]; omega)]; rfl
      rw [this]; simp
  unfold rowS
  omega
end Go.Mx
namespace Go.Mx
/-- the first rows of a table without its first one, and without a column -/
def minTab (t : List (List Int)) (j k : Nat) : List (List Int) := ((t.take k).drop 1).map fun r => r.eraseIdx j
theorem minTab_length (t : List (List Int)) (j k : Nat) (h : k ≤ t.length) : (minTab t j k).length = k - 1 := by simp [minTab]; omega
theorem minTab_one (t : List (List Int)) (j : Nat) : minTab t j 1 = [] := by cases t <;> simp [minTab]
theorem minTab_zero (t : List (List Int)) (j : Nat) : minTab t j 0 = [] := by simp [minTab]
theorem minTab_succ (t : List (List Int)) (j k : Nat) (hk : 1 ≤ k) (h : k < t.length) : minTab t j (k + 1) = minTab t j k ++ [(t.getD k []).eraseIdx j] := by
  unfold minTab
  rw [List.take_succ_eq_append_getElem h, List.drop_append_of_le_length (by rw [List.length_take]; omega), List.map_append]
  simp [List.getD_eq_getElem?_getD, List.getElem?_eq_getElem h]
theorem minTab_all (t : List (List Int)) (j : Nat) : minTab t j t.length = minor t j := by simp [minTab, minor]
end Go.Mx
namespace Go.Mx
theorem detB_3 {n : Nat} (h : n ≤ 3) : detB 10000 n ≤ 6000000000000 := by
  match n, h with
  | 0, _ => decide
  | 1, _ => decide
  | 2, _ => decide
  | 3, _ => decide
theorem det_step_bd {n : Nat} {t : List (List Int)} (h : Sq (n + 1) 10000 t) (hn : n ≤ 3) (j : Nat) (hj : j < n + 1) :
    (-10000 ≤ sgn j * (t.getD 0 []).getD j 0 ∧ sgn j * (t.getD 0 []).getD j 0 ≤ 10000) ∧
    (-60000000000000000 ≤ sgn j * (t.getD 0 []).getD j 0 * detL n (minor t j) ∧ sgn j * (t.getD 0 []).getD j 0 * detL n (minor t j) ≤ 60000000000000000) ∧
    (-240000000000000000 ≤ detTo n t j ∧ detTo n t j ≤ 240000000000000000) := by
  have h1 := sgn_mul_bd j (h.low 0 j) (h.high 0 j)
  have h2 := detL_bd (b := 10000) (by omega) (h.minor j hj)
  have h3 := detB_3 hn
  have h4 := mul_bd (a := 10000) (b := 6000000000000) h1.1 h1.2 (by omega) (by omega : detL n (minor t j) ≤ 6000000000000)
  have h5 := detTo_bd (b := 10000) (by omega) h j (by omega)
  have h6 : (j : Int) * (10000 * detB 10000 n) ≤ 4 * (10000 * 6000000000000) := by
    have h7 : 0 ≤ detB 10000 n := detB_nn (by omega) n
    exact Int.mul_le_mul (by omega) (by omega) (by omega) (by omega)
  refine ⟨h1, ⟨by omega, by omega⟩, ⟨by omega, by omega⟩⟩
theorem detTo_zero_step {n : Nat} {t : List (List Int)} {k : Nat} (h : (t.getD 0 []).getD k 0 = 0) : detTo n t (k + 1) = detTo n t k := by
  rw [detTo_succ, h, Int.mul_zero, Int.zero_mul, Int.add_zero]
end Go.Mx

/- Plain laws on tables given by a function of row and column. No dump is imported. -/
namespace Go.Mx
open Go

def rowF (C : Nat) (f : Nat → Int) : List Int := (List.range C).map f
def tabF (R C : Nat) (F : Nat → Nat → Int) : List (List Int) := (List.range R).map fun x => rowF C (F x)
/-- the entry of a table -/
def at2 (m : List (List Int)) (i j : Nat) : Int := (m.getD i []).getD j 0
/-- a table's entries with one turned -/
def updF (F : Nat → Nat → Int) (i j : Nat) (v : Int) : Nat → Nat → Int := fun x y => if x = i ∧ y = j then v else F x y
def updR (f : Nat → Int) (j : Nat) (v : Int) : Nat → Int := fun y => if y = j then v else f y

theorem rowF_length (C : Nat) (f : Nat → Int) : (rowF C f).length = C := by simp [rowF]
theorem rowF_at (C : Nat) (f : Nat → Int) (j : Nat) (h : j < C) : (rowF C f).getD j 0 = f j := by simp [rowF, List.getD_eq_getElem?_getD, h]
theorem rowF_congr {C : Nat} {f f' : Nat → Int} (h : ∀ j, j < C → f j = f' j) : rowF C f = rowF C f' := by
  unfold rowF
  apply List.map_congr_left
  intro j hj
  exact h j (List.mem_range.1 hj)
theorem rowF_set (C : Nat) (f : Nat → Int) (j : Nat) (v : Int) : (rowF C f).set j v = rowF C (updR f j v) := by
  apply List.ext_getElem
  · simp [rowF]
  · intro i h1 h2
    simp only [List.length_set, rowF_length] at h1
    rw [List.getElem_set]
    simp only [rowF, List.getElem_map, List.getElem_range, updR]
    by_cases e : j = i
    · subst e; simp
    · rw [if_neg e, if_neg (by omega)]
theorem rowF_zero (C : Nat) : rowF C (fun _ => 0) = List.replicate C 0 := by
  apply List.ext_getElem
  · simp [rowF]
  · intro i h1 h2; simp [rowF]
theorem rowF_succ (C : Nat) (f : Nat → Int) : rowF (C + 1) f = rowF C f ++ [f C] := by simp [rowF, List.range_succ]
theorem rowF_of (r : List Int) : rowF r.length (fun j => r.getD j 0) = r := by
  apply List.ext_getElem
  · simp [rowF]
  · intro i h1 h2; simp [rowF, List.getD_eq_getElem?_getD, List.getElem?_eq_getElem h2]

theorem tabF_length (R C : Nat) (F : Nat → Nat → Int) : (tabF R C F).length = R := by simp [tabF]
theorem tabF_row (R C : Nat) (F : Nat → Nat → Int) (i : Nat) (h : i < R) : (tabF R C F).getD i [] = rowF C (F i) := by simp [tabF, List.getD_eq_getElem?_getD, h]
theorem tabF_at (R C : Nat) (F : Nat → Nat → Int) (i j : Nat) (hi : i < R) (hj : j < C) : ((tabF R C F).getD i []).getD j 0 = F i j := by rw [tabF_row R C F i hi, rowF_at C _ j hj]
theorem tabF_congr {R C : Nat} {F F' : Nat → Nat → Int} (h : ∀ i j, i < R → j < C → F i j = F' i j) : tabF R C F = tabF R C F' := by
  unfold tabF
  apply List.map_congr_left
  intro i hi
  exact rowF_congr fun j hj => h i j (List.mem_range.1 hi) hj
theorem tabF_succ (R C : Nat) (F : Nat → Nat → Int) : tabF (R + 1) C F = tabF R C F ++ [rowF C (F R)] := by simp [tabF, List.range_succ]
theorem tabF_zeros (R C : Nat) : tabF R C (fun _ _ => 0) = List.replicate R (List.replicate C 0) := by
  apply List.ext_getElem
  · simp [tabF]
  · intro i h1 h2; simp [tabF, rowF_zero]
theorem tabF_set_row (R C : Nat) (F : Nat → Nat → Int) (i : Nat) (f : Nat → Int) : (tabF R C F).set i (rowF C f) = tabF R C (fun x => if x = i then f else F x) := by
  apply List.ext_getElem
  · simp [tabF]
  · intro k h1 h2
    simp only [List.length_set, tabF_length] at h1
    rw [List.getElem_set]
    simp only [tabF, List.getElem_map, List.getElem_range]
    by_cases e : i = k
    · subst e; simp
    · rw [if_neg e, if_neg (by omega)]
theorem setM_tabF (R C : Nat) (F : Nat → Nat → Int) (i j : Nat) (hi : i < R) (v : Int) : setM (tabF R C F) i j v = tabF R C (updF F i j v) := by
  unfold setM
  rw [tabF_row R C F i hi, rowF_set, tabF_set_row]
  apply tabF_congr
  intro x y _ _
  unfold updF updR
  by_cases e : x = i
  · subst e; simp
  · simp [e]
theorem tabF_of {n k : Nat} {m : List (List Int)} (hl : m.length = n) (hr : ∀ i, i < n → (m.getD i []).length = k) : tabF n k (at2 m) = m := by
  apply ext_getD
  · rw [tabF_length, hl]
  · intro i hi
    rw [tabF_length] at hi
    rw [tabF_row _ _ _ _ hi, ← hr i hi]
    exact rowF_of _
theorem IsM.tab {n : Nat} {m : List (List Int)} (h : IsM n m) : tabF n n (at2 m) = m := tabF_of h.len h.row
theorem tabF_isMat {n : Nat} {F : Nat → Nat → Int} (h1 : 1 ≤ n) (h9 : n ≤ 9) (h : ∀ i j, i < n → j < n → 0 ≤ F i j ∧ F i j ≤ 1000000) : isMat (tabF n n F) = true := by
  simp only [isMat, Bool.and_eq_true, decide_eq_true_eq, List.all_eq_true, tabF_length]
  refine ⟨⟨h1, h9⟩, fun r hr => ?_⟩
  obtain ⟨i, hi, rfl⟩ := List.mem_map.1 hr
  have hi := List.mem_range.1 hi
  simp only [rowOk, rowF_length, Bool.and_eq_true, decide_eq_true_eq, List.all_eq_true]
  refine ⟨trivial, fun x hx => ?_⟩
  obtain ⟨j, hj, rfl⟩ := List.mem_map.1 hx
  exact h i j hi (List.mem_range.1 hj)
theorem tabF_notMat {n : Nat} {F : Nat → Nat → Int} {i j : Nat} (hi : i < n) (hj : j < n) (h : ¬ (0 ≤ F i j ∧ F i j ≤ 1000000)) : isMat (tabF n n F) = false := by
  have hrow : rowOk n (rowF n (F i)) = false := by
    unfold rowOk
    have : (rowF n (F i)).all (fun x => decide (0 ≤ x ∧ x ≤ 1000000)) = false := by
      refine all_bad (k := j) 0 (by rw [rowF_length]; exact hj) ?_
      rw [rowF_at _ _ _ hj]
      exact decide_eq_false h
    rw [this, Bool.and_false]
  refine isMat_row (k := i) (by rw [tabF_length]; exact hi) ?_
  rw [tabF_length, tabF_row _ _ _ _ hi]
  exact hrow
end Go.Mx

/- Plain laws: tables that are filled entry by entry; products and powers; arcs. No dump is imported. -/
namespace Go.Mx
open Go

/-- the entries done so far -/
def maskF (D : Nat → Nat → Bool) (F : Nat → Nat → Int) : Nat → Nat → Int := fun p q => if D p q = true then F p q else 0
theorem mask_set {R C : Nat} {D D' : Nat → Nat → Bool} {F : Nat → Nat → Int} {i j : Nat} (hi : i < R) (h : ∀ p q, p < R → q < C → D' p q = (D p q || (decide (p = i) && decide (q = j)))) : setM (tabF R C (maskF D F)) i j (F i j) = tabF R C (maskF D' F) := by
  rw [setM_tabF _ _ _ _ _ hi]
  apply tabF_congr
  intro p q hp hq
  unfold updF maskF
  rw [h p q hp hq]
  by_cases e : p = i ∧ q = j
  · obtain ⟨rfl, rfl⟩ := e; simp
  · rw [if_neg e]
    by_cases e1 : p = i
    · have : q ≠ j := fun e2 => e ⟨e1, e2⟩
      simp [this]
    · simp [e1]
theorem mask_same {R C : Nat} {D D' : Nat → Nat → Bool} {F : Nat → Nat → Int} (h : ∀ p q, p < R → q < C → D p q = D' p q ∨ F p q = 0) : tabF R C (maskF D F) = tabF R C (maskF D' F) := by
  apply tabF_congr
  intro p q hp hq
  unfold maskF
  rcases h p q hp hq with h | h
  · rw [h]
  · rw [h]; split <;> split <;> rfl
theorem mask_none {R C : Nat} {D : Nat → Nat → Bool} {F : Nat → Nat → Int} (h : ∀ p q, p < R → q < C → D p q = false ∨ F p q = 0) : tabF R C (maskF D F) = tabF R C (fun _ _ => 0) := by
  apply tabF_congr
  intro p q hp hq
  unfold maskF
  rcases h p q hp hq with h | h <;> simp [h]
theorem mask_all {R C : Nat} {D : Nat → Nat → Bool} {F : Nat → Nat → Int} (h : ∀ p q, p < R → q < C → D p q = true ∨ F p q = 0) : tabF R C (maskF D F) = tabF R C F := by
  apply tabF_congr
  intro p q hp hq
  unfold maskF
  rcases h p q hp hq with h | h <;> simp [h]

/-- row by row -/
def doneB (i j p q : Nat) : Bool := decide (p < i) || (decide (p = i) && decide (q < j))
theorem doneB_succ (i j p q : Nat) : doneB i (j + 1) p q = (doneB i j p q || (decide (p = i) && decide (q = j))) := by
  rw [Bool.eq_iff_iff]; simp [doneB]; omega
theorem fill_set {R C : Nat} {F : Nat → Nat → Int} {i j : Nat} (hi : i < R) : setM (tabF R C (maskF (doneB i j) F)) i j (F i j) = tabF R C (maskF (doneB i (j + 1)) F) :=
  mask_set hi fun p q _ _ => doneB_succ i j p q
theorem fill_row {R C c d : Nat} {F : Nat → Nat → Int} {i : Nat} (h : ∀ q, c ≤ q → q < C → F i q = 0) (h2 : ∀ q, q < d → F (i + 1) q = 0) : tabF R C (maskF (doneB i c) F) = tabF R C (maskF (doneB (i + 1) d) F) := by
  apply mask_same
  intro p q hp hq
  by_cases h1 : p = i ∧ c ≤ q
  · obtain ⟨rfl, h1⟩ := h1
    exact .inr (h q h1 hq)
  · by_cases h3 : p = i + 1 ∧ q < d
    · obtain ⟨rfl, h3⟩ := h3
      exact .inr (h2 q h3)
    · left; rw [Bool.eq_iff_iff]; simp [doneB]; omega
theorem fill_zero {R C d : Nat} {F : Nat → Nat → Int} {i : Nat} (h : ∀ p q, p < i → q < C → F p q = 0) (h2 : ∀ q, q < d → F i q = 0) : tabF R C (maskF (doneB i d) F) = tabF R C (fun _ _ => 0) := by
  apply mask_none
  intro p q hp hq
  by_cases h1 : p < i
  · exact .inr (h p q h1 hq)
  · by_cases h3 : p = i ∧ q < d
    · obtain ⟨rfl, h3⟩ := h3
      exact .inr (h2 q h3)
    · left; simp [doneB]; omega
theorem fill_all {R C i : Nat} {F : Nat → Nat → Int} (h : R ≤ i) (j : Nat) : tabF R C (maskF (doneB i j) F) = tabF R C F := by
  apply mask_all
  intro p q hp hq
  left; simp [doneB]; omega
theorem mask_at_not {R C : Nat} {D : Nat → Nat → Bool} {F : Nat → Nat → Int} {i j : Nat} (hi : i < R) (hj : j < C) (h : D i j = false) : ((tabF R C (maskF D F)).getD i []).getD j 0 = 0 := by
  rw [tabF_at _ _ _ _ _ hi hj]; simp [maskF, h]

/-! ### products -/
def dotTo (F G : Nat → Nat → Int) (k i j : Nat) : Int := ((List.range k).map fun x => F i x * G x j).sum
theorem dotTo_zero (F G : Nat → Nat → Int) (i j : Nat) : dotTo F G 0 i j = 0 := rfl
theorem dotTo_succ (F G : Nat → Nat → Int) (k i j : Nat) : dotTo F G (k + 1) i j = dotTo F G k i j + F i k * G k j := by
  unfold dotTo
  rw [List.range_succ, List.map_append, List.sum_append]
  simp
theorem dotTo_bd {F G : Nat → Nat → Int} (hF : ∀ i j, 0 ≤ F i j ∧ F i j ≤ 1000000) (hG : ∀ i j, 0 ≤ G i j ∧ G i j ≤ 1000000) (i j : Nat) : ∀ k : Nat, 0 ≤ dotTo F G k i j ∧ dotTo F G k i j ≤ (k : Int) * 1000000000000
  | 0 => by simp [dotTo_zero]
  | k + 1 => by
    have ih := dotTo_bd hF hG i j k
    have h1 := mul_bd (a := 1000000) (b := 1000000) (by have := hF i k; omega) (hF i k).2 (by have := hG k j; omega) (hG k j).2
    have h2 : 0 ≤ F i k * G k j := Int.mul_nonneg (hF i k).1 (hG k j).1
    rw [dotTo_succ]
    omega
def mulM (n : Nat) (a b : List (List Int)) : List (List Int) := tabF n n (dotTo (at2 a) (at2 b) n)
def unitM (n : Nat) : List (List Int) := tabF n n fun i j => if i = j then 1 else 0
def mulO (a b : List (List Int)) : Option (List (List Int)) := if isMat a = true ∧ isMat b = true ∧ a.length = b.length ∧ isMat (mulM b.length a b) = true then some (mulM b.length a b) else none
def powM (m : List (List Int)) : Nat → Option (List (List Int))
  | 0 => some (unitM m.length)
  | k + 1 => (powM m k).bind fun x => mulO x m
/-- a row of a product, on the way -/
def lineTo (F G : Nat → Nat → Int) (n i k j : Nat) : List Int := rowF n fun q => dotTo F G (if q < j then k + 1 else k) i q
theorem lineTo_zero (F G : Nat → Nat → Int) (n i : Nat) : lineTo F G n i 0 0 = List.replicate n 0 := by
  rw [← rowF_zero]; exact rowF_congr fun q _ => by simp [dotTo_zero]
theorem lineTo_set (F G : Nat → Nat → Int) (n i k j : Nat) : (lineTo F G n i k j).set j (dotTo F G k i j + F i k * G k j) = lineTo F G n i k (j + 1) := by
  unfold lineTo
  rw [rowF_set]
  apply rowF_congr
  intro q hq
  unfold updR
  by_cases e : q = j
  · subst e; rw [if_pos rfl, if_pos (by omega), dotTo_succ]
  · rw [if_neg e]
    show dotTo F G (if q < j then k + 1 else k) i q = dotTo F G (if q < j + 1 then k + 1 else k) i q
    by_cases h : q < j
    · rw [if_pos h, if_pos (by omega)]
    · rw [if_neg h, if_neg (by omega)]
theorem lineTo_at (F G : Nat → Nat → Int) (n i k j : Nat) (h : j < n) : (lineTo F G n i k j).getD j 0 = dotTo F G k i j := by
  unfold lineTo; rw [rowF_at _ _ _ h, if_neg (by omega)]
theorem lineTo_next (F G : Nat → Nat → Int) (n i k : Nat) : lineTo F G n i k n = lineTo F G n i (k + 1) 0 := by
  unfold lineTo
  exact rowF_congr fun q hq => by rw [if_pos hq, if_neg (by omega)]
theorem lineTo_length (F G : Nat → Nat → Int) (n i k j : Nat) : (lineTo F G n i k j).length = n := rowF_length _ _
theorem lineTo_done (F G : Nat → Nat → Int) (n i k : Nat) : lineTo F G n i k 0 = rowF n (dotTo F G k i) := rowF_congr fun q _ => by rw [if_neg (by omega)]

/-- a table of products, on the way -/
def cellTo (F G : Nat → Nat → Int) (n i j k : Nat) : Nat → Nat → Int := fun p q => if doneB i j p q = true then dotTo F G n p q else if p = i ∧ q = j then dotTo F G k p q else 0
theorem cellTo_zero (F G : Nat → Nat → Int) (n R C : Nat) : tabF R C (cellTo F G n 0 0 0) = tabF R C (fun _ _ => 0) := by
  apply tabF_congr
  intro p q _ _
  have h : doneB 0 0 p q = false := by simp [doneB]
  unfold cellTo
  rw [h]
  simp [dotTo_zero]
theorem cellTo_set (F G : Nat → Nat → Int) (n R C i j k : Nat) (hi : i < R) : setM (tabF R C (cellTo F G n i j k)) i j (dotTo F G k i j + F i k * G k j) = tabF R C (cellTo F G n i j (k + 1)) := by
  rw [setM_tabF _ _ _ _ _ hi]
  apply tabF_congr
  intro p q _ _
  unfold updF cellTo
  by_cases e : p = i ∧ q = j
  · obtain ⟨rfl, rfl⟩ := e
    have h : doneB p q p q = false := by simp [doneB]
    rw [h]; simp [dotTo_succ]
  · rw [if_neg e, if_neg e, if_neg e]
theorem cellTo_at (F G : Nat → Nat → Int) (n R C i j k : Nat) (hi : i < R) (hj : j < C) : ((tabF R C (cellTo F G n i j k)).getD i []).getD j 0 = dotTo F G k i j := by
  have h : doneB i j i j = false := by simp [doneB]
  rw [tabF_at _ _ _ _ _ hi hj]
  unfold cellTo
  rw [h]; simp
theorem cellTo_col (F G : Nat → Nat → Int) (n R C i j : Nat) : tabF R C (cellTo F G n i j n) = tabF R C (cellTo F G n i (j + 1) 0) := by
  apply tabF_congr
  intro p q _ _
  unfold cellTo
  rw [doneB_succ]
  by_cases e : p = i ∧ q = j
  · obtain ⟨rfl, rfl⟩ := e
    simp
  · have e2 : (decide (p = i) && decide (q = j)) = false := by
      by_cases e1 : p = i
      · have : q ≠ j := fun e2 => e ⟨e1, e2⟩
        simp [this]
      · simp [e1]
    rw [if_neg e, e2, Bool.or_false]
    split
    · rfl
    · split
      · simp [dotTo_zero]
      · rfl
theorem cellTo_row (F G : Nat → Nat → Int) (n R C i : Nat) : tabF R C (cellTo F G n i C 0) = tabF R C (cellTo F G n (i + 1) 0 0) := by
  apply tabF_congr
  intro p q _ hq
  have h : doneB i C p q = doneB (i + 1) 0 p q := by rw [Bool.eq_iff_iff]; simp [doneB]; omega
  unfold cellTo
  rw [h]
  simp [dotTo_zero]
theorem cellTo_all (F G : Nat → Nat → Int) (n R C : Nat) : tabF R C (cellTo F G n R 0 0) = tabF R C (dotTo F G n) := by
  apply tabF_congr
  intro p q hp _
  have h : doneB R 0 p q = true := by simp [doneB]; omega
  unfold cellTo
  rw [h]; rfl
end Go.Mx

/- Plain laws: two graphs joined, and their pairs. No dump is imported. -/
namespace Go.Mx
open Go

theorem tabF_row_length {R C : Nat} {F : Nat → Nat → Int} {i : Nat} (h : i < R) : ((tabF R C F).getD i []).length = C := by rw [tabF_row _ _ _ _ h, rowF_length]
/-- a whole row at once -/
theorem fill_whole {R C : Nat} {F : Nat → Nat → Int} (i : Nat) : (tabF R C (maskF (doneB i 0) F)).set i (rowF C (F i)) = tabF R C (maskF (doneB (i + 1) 0) F) := by
  rw [tabF_set_row]
  apply tabF_congr
  intro p q _ _
  by_cases e : p = i
  · subst e
    have h : doneB (p + 1) 0 p q = true := by simp [doneB]
    simp [maskF, h]
  · have h : doneB (i + 1) 0 p q = doneB i 0 p q := by rw [Bool.eq_iff_iff]; simp [doneB]; omega
    simp only [if_neg e, maskF, h]

theorem fill_row_zero {R C : Nat} {F : Nat → Nat → Int} {i j : Nat} (h : i < R) (hz : ∀ q, q < j → F i q = 0) : (tabF R C (maskF (doneB i j) F)).getD i [] = rowF C fun _ => 0 := by
  rw [tabF_row _ _ _ _ h]
  apply rowF_congr
  intro q _
  unfold maskF
  split
  · next h1 =>
    simp [doneB] at h1
    exact hz q h1
  · rfl
theorem fill_skip {R C d : Nat} {F : Nat → Nat → Int} {i : Nat} (h : ∀ q, q < d → F i q = 0) : tabF R C (maskF (doneB i 0) F) = tabF R C (maskF (doneB i d) F) := by
  apply mask_same
  intro p q _ _
  by_cases h3 : p = i ∧ q < d
  · obtain ⟨rfl, h3⟩ := h3
    exact .inr (h q h3)
  · left; rw [Bool.eq_iff_iff]; simp [doneB]; omega
def joinF (a b : List (List Int)) (p q : Nat) : Int := if p < a.length then (if q < a.length then at2 a p q else 0) else (if q < a.length then 0 else at2 b (p - a.length) (q - a.length))
def joinM (a b : List (List Int)) : List (List Int) := tabF (a.length + b.length) (a.length + b.length) (joinF a b)
def joinO (a b : List (List Int)) : Option (List (List Int)) := if (isMat a && isMat b) = true ∧ a.length + b.length ≤ 9 then some (joinM a b) else none
theorem joinO_no {a b : List (List Int)} (h : (isMat a && isMat b) = false) : joinO a b = none := by unfold joinO; rw [h]; simp
theorem joinO_long {a b : List (List Int)} (h : ¬ a.length + b.length ≤ 9) : joinO a b = none := by unfold joinO; rw [if_neg (by simp [h])]
theorem joinO_yes {a b : List (List Int)} (h : (isMat a && isMat b) = true) (h2 : a.length + b.length ≤ 9) : joinO a b = some (joinM a b) := by unfold joinO; rw [if_pos ⟨h, h2⟩]
theorem isMat_long {m : List (List Int)} (h : ¬ m.length ≤ 9) : isMat m = false := isMat_size (by omega)
theorem IsM.at2_bd {n : Nat} {m : List (List Int)} (h : IsM n m) (i j : Nat) : 0 ≤ at2 m i j ∧ at2 m i j ≤ 1000000 := ⟨h.low i j, h.high i j⟩
theorem joinF_bd {a b : List (List Int)} (ha : IsM a.length a) (hb : IsM b.length b) (p q : Nat) : 0 ≤ joinF a b p q ∧ joinF a b p q ≤ 1000000 := by
  unfold joinF
  split <;> split
  · exact ha.at2_bd _ _
  · omega
  · omega
  · exact hb.at2_bd _ _
theorem joinM_mat {a b : List (List Int)} (ha : IsM a.length a) (hb : IsM b.length b) : isMat (joinM a b) = decide (a.length + b.length ≤ 9) := by
  by_cases h : a.length + b.length ≤ 9
  · rw [decide_eq_true h]
    exact tabF_isMat (by have := ha.pos; omega) h fun i j _ _ => joinF_bd ha hb i j
  · rw [decide_eq_false h]
    exact isMat_long (by unfold joinM; rw [tabF_length]; exact h)
theorem splice_icells (xs ys : List Int) (off : Nat) : splice (icells xs) off (icells ys) = icells (splice xs off ys) := by
  simp [splice, icells]
theorem splice_at (xs ys : List Int) (off q : Nat) (h : off + ys.length ≤ xs.length) : (splice xs off ys)[q]? = if q < off then xs[q]? else if q < off + ys.length then ys[q - off]? else xs[q]? := by
  unfold splice
  have htl : (xs.take off).length = off := by rw [List.length_take]; omega
  by_cases h1 : q < off
  · rw [if_pos h1, List.getElem?_append_left (by omega), List.getElem?_take, if_pos h1]
  · rw [if_neg h1, List.getElem?_append_right (by omega), htl]
    by_cases h2 : q < off + ys.length
    · rw [if_pos h2, List.getElem?_append_left (by omega)]
    · rw [if_neg h2, List.getElem?_append_right (by omega), List.getElem?_drop]
      congr 1
      omega
theorem rowF_at? (C : Nat) (f : Nat → Int) (q : Nat) : (rowF C f)[q]? = if q < C then some (f q) else none := by
  by_cases h : q < C
  · simp [rowF, h]
  · rw [if_neg h, List.getElem?_eq_none (by rw [rowF_length]; omega)]
theorem row_at? {r : List Int} {q : Nat} (h : q < r.length) : r[q]? = some (r.getD q 0) := by
  rw [List.getD_eq_getElem?_getD, List.getElem?_eq_getElem h]; rfl
/-- the first rows: those of a -/
theorem join_row_a {a b : List (List Int)} {i : Nat} (ha : IsM a.length a) (hi : i < a.length) : splice (icells (rowF (a.length + b.length) fun _ => 0)) 0 (icells (a.getD i [])) = icells (rowF (a.length + b.length) (joinF a b i)) := by
  have hl := ha.row i hi
  rw [splice_icells]
  congr 1
  apply List.ext_getElem?
  intro q
  rw [splice_at _ _ _ _ (by rw [hl, rowF_length]; omega), rowF_at?, rowF_at?, hl]
  unfold joinF
  simp only [if_pos hi]
  by_cases hq : q < a.length
  · rw [if_neg (by omega), if_pos (by omega), if_pos (by omega), row_at? (by omega), if_pos hq]; rfl
  · rw [if_neg (by omega), if_neg (by omega), if_neg hq]
theorem join_row_b {a b : List (List Int)} {i : Nat} (hb : IsM b.length b) (hi : i < b.length) : splice (icells (rowF (a.length + b.length) fun _ => 0)) a.length (icells (b.getD i [])) = icells (rowF (a.length + b.length) (joinF a b (a.length + i))) := by
  have hl := hb.row i hi
  rw [splice_icells]
  congr 1
  apply List.ext_getElem?
  intro q
  rw [splice_at _ _ _ _ (by rw [hl, rowF_length]; omega), rowF_at?, rowF_at?, hl]
  unfold joinF
  simp only [if_neg (show ¬ a.length + i < a.length by omega)]
  by_cases hq : q < a.length
  · rw [if_pos hq, if_pos hq]
  · rw [if_neg hq, if_neg hq]
    by_cases hq2 : q < a.length + b.length
    · rw [if_pos hq2, if_pos hq2, row_at? (by omega), Nat.add_sub_cancel_left]; rfl
    · simp only [if_neg hq2]
theorem isMat_size9 {m : List (List Int)} (h : IsM m.length m) : sizeM m ≤ 81 := by
  have h9 := h.le
  have key : ∀ k, k ≤ m.length → sizeM (m.take k) ≤ 9 * k := by
    intro k
    induction k with
    | zero => intro _; simp [sizeM]
    | succ k ih =>
      intro hk
      have := ih (by omega)
      rw [sizeM_take m k (by omega), h.row k (by omega)]
      omega
  have := key m.length (Nat.le_refl _)
  rw [sizeM_all] at this
  omega
end Go.Mx

/- Plain laws: products and powers. No dump is imported. -/
namespace Go.Mx
open Go

theorem mulM_length (n : Nat) (a b : List (List Int)) : (mulM n a b).length = n := tabF_length _ _ _
theorem mulO_no {a b : List (List Int)} (h : (isMat a && isMat b) = false) : mulO a b = none := by
  unfold mulO
  rw [if_neg]
  rintro ⟨h1, h2, _⟩
  rw [h1, h2] at h; cases h
theorem mulO_len {a b : List (List Int)} (h : ¬ a.length = b.length) : mulO a b = none := by
  unfold mulO
  rw [if_neg]
  rintro ⟨_, _, h3, _⟩
  exact h h3
theorem mulO_bad {a b : List (List Int)} (h : isMat (mulM b.length a b) = false) : mulO a b = none := by
  unfold mulO
  rw [if_neg]
  rintro ⟨_, _, _, h4⟩
  rw [h] at h4; cases h4
theorem mulO_yes {a b : List (List Int)} (h : (isMat a && isMat b) = true) (h2 : a.length = b.length) (h3 : isMat (mulM b.length a b) = true) : mulO a b = some (mulM b.length a b) := by
  rw [Bool.and_eq_true] at h
  unfold mulO
  rw [if_pos ⟨h.1, h.2, h2, h3⟩]
theorem mulO_mat {a b r : List (List Int)} (h : mulO a b = some r) : isMat r = true := by
  unfold mulO at h
  split at h
  · next hc => cases h; exact hc.2.2.2
  · cases h
def idF (i j : Nat) : Int := if i = j then 1 else 0
theorem unitM_eq (n : Nat) : unitM n = tabF n n idF := rfl
def upB (i p _q : Nat) : Bool := decide (p < i)
theorem unit_set {n i : Nat} (hi : i < n) : setM (tabF n n (maskF (upB i) idF)) i i 1 = tabF n n (maskF (upB (i + 1)) idF) := by
  have h := mask_set (R := n) (C := n) (F := idF) (D := upB i) (D' := fun p q => upB i p q || (decide (p = i) && decide (q = i))) (i := i) (j := i) hi fun p q _ _ => rfl
  have e : idF i i = 1 := if_pos rfl
  rw [e] at h
  rw [h]
  apply mask_same
  intro p q _ _
  by_cases hp : p = i ∧ q ≠ i
  · right
    unfold idF
    rw [if_neg]
    intro e2
    exact hp.2 (e2 ▸ hp.1)
  · left
    rw [Bool.eq_iff_iff]; simp [upB]; omega
theorem unit_zero {n : Nat} : tabF n n (fun _ _ => 0) = tabF n n (maskF (upB 0) idF) := (mask_none fun p q _ _ => .inl (by simp [upB])).symm
theorem unit_all {n : Nat} : tabF n n (maskF (upB n) idF) = unitM n := mask_all fun p q hp _ => .inl (by simp [upB]; exact hp)
theorem powM_none {m : List (List Int)} {k : Nat} (h : powM m k = none) : ∀ j, powM m (k + j) = none
  | 0 => h
  | j + 1 => by
    have := powM_none h j
    rw [← Nat.add_assoc]
    unfold powM
    rw [this]; rfl
theorem powM_succ {m x : List (List Int)} {k : Nat} (h : powM m k = some x) : powM m (k + 1) = mulO x m := by
  conv => lhs; unfold powM
  rw [h]; rfl
theorem powM_late {m : List (List Int)} {k N : Nat} (h : powM m k = none) (hk : k ≤ N) : powM m N = none := by
  have := powM_none h (N - k)
  rwa [show k + (N - k) = N by omega] at this
def powO (m : List (List Int)) (n : Int) : Option (List (List Int)) := if isMat m = true ∧ 0 ≤ n ∧ n ≤ 30 then powM m n.toNat else none
def powG (m : List (List Int)) (n : Int) : Option (List (List Int)) := if 1 ≤ n then powO m n else none
theorem powO_no {m : List (List Int)} {n : Int} (h : isMat m = false) : powO m n = none := by unfold powO; rw [h]; simp
theorem powO_far {m : List (List Int)} {n : Int} (h : n < 0 ∨ 30 < n) : powO m n = none := by
  unfold powO
  rw [if_neg]
  rintro ⟨_, h1, h2⟩
  omega
theorem powO_yes {m : List (List Int)} {N : Nat} (h : isMat m = true) (h2 : N ≤ 30) : powO m (N : Int) = powM m N := by
  unfold powO
  rw [if_pos ⟨h, by omega, by omega⟩]; rfl
theorem IsM.unit {n : Nat} {m : List (List Int)} (h : IsM n m) : isMat (unitM n) = true := tabF_isMat h.pos h.le fun i j _ _ => by split <;> omega
theorem powM_mat {m : List (List Int)} (h : isMat m = true) : ∀ {k : Nat} {r : List (List Int)}, powM m k = some r → isMat r = true
  | 0, r, e => by
    simp only [powM, Option.some.injEq] at e
    rw [← e]; exact (isMat_yes h).unit
  | k + 1, r, e => by
    cases hk : powM m k with
    | none => have := powM_none hk 1; rw [this] at e; cases e
    | some x => rw [powM_succ hk] at e; exact mulO_mat e
theorem powG_size (m : List (List Int)) (n : Int) : sizeM ((powG m n).getD []) ≤ 1000000000 := by
  cases h : powG m n with
  | none => simp [sizeM]
  | some r =>
    unfold powG powO at h
    split at h
    · split at h
      · next hc =>
        have := isMat_size9 (isMat_yes (powM_mat hc.1 h))
        simp; omega
      · cases h
    · cases h
end Go.Mx

/- Plain laws: arcs of a graph, parts of a table, reachability. No dump is imported. -/
namespace Go.Mx
open Go

/-! ### arcs -/
/-- the arcs from vertex i to the vertices below j -/
def arcsRow (r : List Int) (i j : Nat) : List (List Int) := (List.range j).flatMap fun q => List.replicate (r.getD q 0).toNat [(i : Int), (q : Int)]
/-- the arcs from the vertices below i -/
def arcsTo (m : List (List Int)) (i : Nat) : List (List Int) := (List.range i).flatMap fun p => arcsRow (m.getD p []) p m.length
def arcsL (m : List (List Int)) : List (List Int) := arcsTo m m.length
def sumTo (m : List (List Int)) (i : Nat) : Int := ((List.range i).map fun p => (m.getD p []).sum).sum
def sumM (m : List (List Int)) : Int := sumTo m m.length
theorem arcsRow_succ (r : List Int) (i j : Nat) : arcsRow r i (j + 1) = arcsRow r i j ++ List.replicate (r.getD j 0).toNat [(i : Int), (j : Int)] := by
  simp [arcsRow, List.range_succ]
theorem arcsTo_succ (m : List (List Int)) (i : Nat) : arcsTo m (i + 1) = arcsTo m i ++ arcsRow (m.getD i []) i m.length := by
  simp [arcsTo, List.range_succ]
theorem sumTo_succ (m : List (List Int)) (i : Nat) : sumTo m (i + 1) = sumTo m i + (m.getD i []).sum := by
  simp [sumTo, List.range_succ]
theorem arcsRow_length {r : List Int} (h : ∀ j, 0 ≤ r.getD j 0) (i : Nat) : ∀ j, j ≤ r.length → ((arcsRow r i j).length : Int) = (r.take j).sum
  | 0, _ => by simp [arcsRow]
  | j + 1, hj => by
    have ih := arcsRow_length h i j (by omega)
    rw [arcsRow_succ, List.length_append, List.length_replicate, sum_take_succ r j (by omega)]
    have := h j
    omega
theorem IsM.nn {n : Nat} {m : List (List Int)} (h : IsM n m) (i j : Nat) : 0 ≤ ((m.getD i []).take j).sum := (sum_take_pos (m.getD i []) 1000000 (by omega) (fun q => ⟨h.low i q, h.high i q⟩) j).1
theorem IsM.sum_nn {n : Nat} {m : List (List Int)} (h : IsM n m) (i : Nat) : 0 ≤ (m.getD i []).sum := by
  have := h.nn i (m.getD i []).length
  rwa [List.take_length] at this
theorem IsM.sumTo_bd {n : Nat} {m : List (List Int)} (h : IsM n m) : ∀ i : Nat, 0 ≤ sumTo m i ∧ sumTo m i ≤ (i : Int) * 1000000000
  | 0 => by simp [sumTo]
  | i + 1 => by
    have ih := h.sumTo_bd i
    have := h.rowS_bd i
    unfold rowS at this
    rw [sumTo_succ]
    omega
theorem IsM.sumTo_mono {n : Nat} {m : List (List Int)} (h : IsM n m) (i : Nat) : ∀ k, sumTo m i ≤ sumTo m (i + k)
  | 0 => Int.le_refl _
  | k + 1 => by
    have ih := h.sumTo_mono i k
    rw [← Nat.add_assoc, sumTo_succ]
    have := h.sum_nn (i + k)
    omega
theorem IsM.arcsTo_length {n : Nat} {m : List (List Int)} (h : IsM n m) : ∀ i, i ≤ n → ((arcsTo m i).length : Int) = sumTo m i
  | 0, _ => by simp [arcsTo, sumTo]
  | i + 1, hi => by
    have ih := h.arcsTo_length i (by omega)
    have hr := arcsRow_length (r := m.getD i []) (h.low i) i (m.getD i []).length (Nat.le_refl _)
    rw [List.take_length] at hr
    rw [arcsTo_succ, List.length_append, sumTo_succ, h.len]
    rw [h.row i (by omega)] at hr
    omega
/-- on the way: rows below i, columns below j, k copies -/
def arcsAt (m : List (List Int)) (i j k : Nat) : List (List Int) := arcsTo m i ++ arcsRow (m.getD i []) i j ++ List.replicate k [(i : Int), (j : Int)]
theorem arcsAt_zero (m : List (List Int)) (i : Nat) : arcsAt m i 0 0 = arcsTo m i := by simp [arcsAt, arcsRow]
theorem arcsAt_start (m : List (List Int)) (i j : Nat) : arcsAt m i j 0 = arcsTo m i ++ arcsRow (m.getD i []) i j := by simp [arcsAt]
theorem arcsAt_succ (m : List (List Int)) (i j k : Nat) : arcsAt m i j (k + 1) = arcsAt m i j k ++ [[(i : Int), (j : Int)]] := by
  simp [arcsAt, List.replicate_succ']
theorem arcsAt_col (m : List (List Int)) (i j : Nat) (k : Nat) (hk : (k : Int) = (m.getD i []).getD j 0) : arcsAt m i j k = arcsAt m i (j + 1) 0 := by
  rw [arcsAt_start, arcsRow_succ, ← hk]
  simp [arcsAt]
theorem arcsAt_row (m : List (List Int)) (i : Nat) : arcsAt m i m.length 0 = arcsAt m (i + 1) 0 0 := by
  rw [arcsAt_zero, arcsTo_succ, arcsAt_start]
theorem IsM.arcsAt_length {n : Nat} {m : List (List Int)} (h : IsM n m) {i j k : Nat} (hi : i < n) (hj : j < n) (hk : (k : Int) ≤ (m.getD i []).getD j 0) : ((arcsAt m i j k).length : Int) ≤ sumM m := by
  have h1 := h.arcsTo_length i (by omega)
  have h2 := arcsRow_length (r := m.getD i []) (h.low i) i j (by rw [h.row i hi]; omega)
  have h3 := sum_take_succ (m.getD i []) j (by rw [h.row i hi]; omega)
  have h4 := h.sumTo_mono (i + 1) (n - (i + 1))
  rw [show i + 1 + (n - (i + 1)) = n by omega, sumTo_succ] at h4
  have h5 : ((m.getD i []).take (j + 1)).sum ≤ (m.getD i []).sum := by
    have e := congrArg List.sum (List.take_append_drop (j + 1) (m.getD i []))
    rw [List.sum_append] at e
    have h6 : ∀ l : List Int, (∀ x ∈ l, 0 ≤ x) → 0 ≤ l.sum := by
      intro l
      induction l with
      | nil => intro _; simp
      | cons a l ih =>
        intro hl
        have h7 := ih fun x hx => hl x (List.mem_cons_of_mem _ hx)
        have h8 := hl a (List.mem_cons_self ..)
        simp only [List.sum_cons]; omega
    have h9 : 0 ≤ ((m.getD i []).drop (j + 1)).sum := by
      apply h6
      intro x hx
      have hx2 := List.mem_of_mem_drop hx
      obtain ⟨q, hq, e⟩ := List.getElem_of_mem hx2
      have := h.low i q
      rw [List.getD_eq_getElem?_getD (l := m.getD i []), List.getElem?_eq_getElem hq] at this
      simp only [Option.getD_some] at this
      rw [e] at this
      exact this
    omega
  unfold sumM arcsAt
  rw [h.len, List.length_append, List.length_append, List.length_replicate]
  omega
theorem arcsL_two (m : List (List Int)) : ∀ r ∈ arcsL m, r.length = 2 := by
  intro r hr
  simp only [arcsL, arcsTo, arcsRow, List.mem_flatMap, List.mem_replicate] at hr
  obtain ⟨p, _, q, _, _, rfl⟩ := hr
  rfl
theorem arcsL_at_two (m : List (List Int)) (i : Nat) (hi : i < (arcsL m).length) : ((arcsL m).getD i []).length = 2 := by
  rw [List.getD_eq_getElem?_getD, List.getElem?_eq_getElem hi]
  exact arcsL_two m _ (List.getElem_mem hi)

/-- the graph of the arcs -/
def blkF (l : List (List Int)) (i j : Nat) : Int := if (l.getD i []).getD 1 0 = (l.getD j []).getD 0 0 then 1 else 0
def arcsG (m : List (List Int)) : List (List Int) := if isMat m = true ∧ sumM m ≤ 60 then arcsL m else []
def blkO (m : List (List Int)) : Option (List (List Int)) := if 1 ≤ (arcsG m).length ∧ (arcsG m).length ≤ 9 then some (tabF (arcsG m).length (arcsG m).length (blkF (arcsG m))) else none

/-! ### parts -/
def partL (m : List (List Int)) (l : List Int) : List (List Int) := l.map fun i => l.map fun j => (m.getD i.toNat []).getD j.toNat 0
theorem partL_length (m : List (List Int)) (l : List Int) : (partL m l).length = l.length := by simp [partL]
/-- on the way -/
def partRow (m : List (List Int)) (l : List Int) (i j : Nat) : List Int := (l.take j).map fun q => (m.getD (l.getD i 0).toNat []).getD q.toNat 0
def partTo (m : List (List Int)) (l : List Int) (i : Nat) : List (List Int) := (partL m l).take i
theorem partRow_zero (m : List (List Int)) (l : List Int) (i : Nat) : partRow m l i 0 = [] := by simp [partRow]
theorem partRow_succ (m : List (List Int)) (l : List Int) (i j : Nat) (hj : j < l.length) : partRow m l i (j + 1) = partRow m l i j ++ [(m.getD (l.getD i 0).toNat []).getD (l.getD j 0).toNat 0] := by
  unfold partRow
  rw [List.take_succ_eq_append_getElem hj, List.map_append]
  simp [List.getD_eq_getElem?_getD, List.getElem?_eq_getElem hj]
theorem partTo_zero (m : List (List Int)) (l : List Int) : partTo m l 0 = [] := by simp [partTo]
theorem partTo_succ (m : List (List Int)) (l : List Int) (i : Nat) (hi : i < l.length) : partTo m l (i + 1) = partTo m l i ++ [partRow m l i l.length] := by
  unfold partTo
  rw [List.take_succ_eq_append_getElem (by rw [partL_length]; exact hi)]
  congr 2
  simp [partL, partRow, List.getD_eq_getElem?_getD, List.getElem?_eq_getElem hi]
theorem partTo_all (m : List (List Int)) (l : List Int) : partTo m l l.length = partL m l := by
  unfold partTo; rw [List.take_of_length_le (by rw [partL_length]; exact Nat.le_refl _)]
theorem partTo_length (m : List (List Int)) (l : List Int) (i : Nat) (h : i ≤ l.length) : (partTo m l i).length = i := by
  unfold partTo; rw [List.length_take, partL_length]; omega
theorem partRow_length (m : List (List Int)) (l : List Int) (i j : Nat) (h : j ≤ l.length) : (partRow m l i j).length = j := by
  unfold partRow; rw [List.length_map, List.length_take]; omega
theorem partL_row (m : List (List Int)) (l : List Int) (i : Nat) (h : i < l.length) : (partL m l).getD i [] = l.map fun j => (m.getD (l.getD i 0).toNat []).getD j.toNat 0 := by
  simp [partL, List.getD_eq_getElem?_getD, List.getElem?_eq_getElem h]
theorem map_getD_bd {l : List Int} {f : Int → Int} {a b : Int} (ha : a ≤ 0) (hb : 0 ≤ b) (h : ∀ j, a ≤ f j ∧ f j ≤ b) (k : Nat) : a ≤ (l.map f).getD k 0 ∧ (l.map f).getD k 0 ≤ b := by
  rcases getD_mem_or (l.map f) k 0 with hm | hm
  · rw [List.mem_map] at hm
    obtain ⟨x, _, e⟩ := hm
    rw [← e]; exact h x
  · rw [hm]; exact ⟨ha, hb⟩
theorem partL_sq {b : Int} (hb : 0 ≤ b) {m : List (List Int)} (l : List Int) (h : ∀ i j, -b ≤ (m.getD i []).getD j 0 ∧ (m.getD i []).getD j 0 ≤ b) : Sq l.length b (partL m l) := by
  have hx : ∀ i j, -b ≤ ((partL m l).getD i []).getD j 0 ∧ ((partL m l).getD i []).getD j 0 ≤ b := by
    intro i j
    by_cases hi : i < l.length
    · rw [partL_row m l i hi]
      exact map_getD_bd (by omega) hb (fun q => h _ _) j
    · rw [List.getD_eq_getElem?_getD (l := partL m l), List.getElem?_eq_none (by rw [partL_length]; omega)]
      simp; omega
  exact ⟨partL_length m l, fun i hi => by rw [partL_row m l i hi, List.length_map], fun i j => (hx i j).1, fun i j => (hx i j).2⟩

/-! ### the first rows and columns; the growth -/
def natL (k : Nat) : List Int := (List.range k).map fun i : Nat => (i : Int)
theorem natL_succ (k : Nat) : natL (k + 1) = natL k ++ [(k : Int)] := by simp [natL, List.range_succ]
theorem natL_length (k : Nat) : (natL k).length = k := by simp [natL]
theorem natL_at (k j : Nat) (h : j < k) : (natL k).getD j 0 = (j : Int) := by simp [natL, List.getD_eq_getElem?_getD, h]
theorem partL_tabF (n k : Nat) (h : k ≤ n) (F : Nat → Nat → Int) : partL (tabF n n F) (natL k) = tabF k k F := by
  unfold partL natL tabF rowF
  rw [List.map_map]
  apply List.map_congr_left
  intro i hi
  have hi := List.mem_range.1 hi
  simp only [Function.comp, List.map_map]
  apply List.map_congr_left
  intro j hj
  have hj := List.mem_range.1 hj
  have e1 : ((i : Nat) : Int).toNat = i := by omega
  have e2 : ((j : Nat) : Int).toNat = j := by omega
  have := tabF_at n n F i j (by omega) (by omega)
  unfold tabF rowF at this
  simp only [Function.comp, e1, e2]
  exact this
def lessF (m : List (List Int)) (q d : Int) (i j : Nat) : Int := (if i = j then q else 0) - d * at2 m i j
/-- all the first minors up to k are greater than 0 -/
def belowTo (m : List (List Int)) (q d : Int) (k : Nat) : Bool := (List.range k).all fun i => decide (0 < detL (i + 1) (tabF (i + 1) (i + 1) (lessF m q d)))
def belowB (m : List (List Int)) (q d : Int) : Bool := belowTo m q d m.length
theorem belowTo_zero (m : List (List Int)) (q d : Int) : belowTo m q d 0 = true := rfl
theorem belowTo_succ (m : List (List Int)) (q d : Int) (k : Nat) : belowTo m q d (k + 1) = (belowTo m q d k && decide (0 < detL (k + 1) (tabF (k + 1) (k + 1) (lessF m q d)))) := by
  simp [belowTo, List.range_succ]
theorem belowB_bad {m : List (List Int)} {q d : Int} {k : Nat} (hk : k < m.length) (h : detL (k + 1) (tabF (k + 1) (k + 1) (lessF m q d)) ≤ 0) : belowB m q d = false := by
  unfold belowB belowTo
  rw [List.all_eq_false]
  exact ⟨k, List.mem_range.2 hk, by simp; omega⟩
theorem tabF_sq {n : Nat} {b : Int} (hb : 0 ≤ b) {F : Nat → Nat → Int} (h : ∀ i j, -b ≤ F i j ∧ F i j ≤ b) : Sq n b (tabF n n F) := by
  have hx : ∀ i j, -b ≤ ((tabF n n F).getD i []).getD j 0 ∧ ((tabF n n F).getD i []).getD j 0 ≤ b := by
    intro i j
    by_cases hi : i < n
    · by_cases hj : j < n
      · rw [tabF_at _ _ _ _ _ hi hj]; exact h i j
      · rw [tabF_row _ _ _ _ hi, List.getD_eq_getElem?_getD, List.getElem?_eq_none (by rw [rowF_length]; omega)]; simp; omega
    · rw [List.getD_eq_getElem?_getD (l := tabF n n F), List.getElem?_eq_none (by rw [tabF_length]; omega)]; simp; omega
  exact ⟨tabF_length _ _ _, fun i hi => by rw [tabF_row _ _ _ _ hi, rowF_length], fun i j => (hx i j).1, fun i j => (hx i j).2⟩
theorem lessF_bd {m : List (List Int)} {q d : Int} (hm : ∀ i j, 0 ≤ at2 m i j ∧ at2 m i j ≤ 9) (hq : 0 ≤ q ∧ q ≤ 4000) (hd : 0 ≤ d ∧ d ≤ 100) (i j : Nat) : -10000 ≤ lessF m q d i j ∧ lessF m q d i j ≤ 10000 := by
  have h1 := mul_bd (x := d) (y := at2 m i j) (a := 100) (b := 9) (by omega) (by omega) (by have := hm i j; omega) (hm i j).2
  unfold lessF
  split <;> omega
/-- the search by halves -/
def halve (f : Int → Bool) : Nat → Int → Int → Int
  | 0, low, _ => low
  | k + 1, low, high => if high - low > 1 then (if f ((low + high) / 2) then halve f k low ((low + high) / 2) else halve f k ((low + high) / 2) high) else low
theorem halve_done {f : Int → Bool} {low high : Int} (h : ¬ high - low > 1) : ∀ k, halve f k low high = low
  | 0 => rfl
  | k + 1 => by simp only [halve]; rw [if_neg h]
/-- more fuel changes nothing -/
theorem halve_fuel {f : Int → Bool} : ∀ (k : Nat) (low high : Int), high - low ≤ (k : Int) + 1 → halve f (k + 1) low high = halve f k low high
  | 0, low, high, h => by simp only [halve]; rw [if_neg (by omega)]
  | k + 1, low, high, h => by
    by_cases hd : high - low > 1
    · have h1 := halve_fuel (f := f) k low ((low + high) / 2) (by omega)
      have h2 := halve_fuel (f := f) k ((low + high) / 2) high (by omega)
      conv => lhs; unfold halve
      conv => rhs; unfold halve
      rw [if_pos hd, if_pos hd, h1, h2]
    · rw [halve_done hd, halve_done hd]
theorem halve_any {f : Int → Bool} (low high : Int) : ∀ (j k : Nat), high - low ≤ (k : Int) + 1 → halve f (k + j) low high = halve f k low high
  | 0, k, _ => rfl
  | j + 1, k, h => by
    rw [← Nat.add_assoc, halve_fuel (k + j) low high (by omega), halve_any low high j k h]
def floorG (m : List (List Int)) (d : Int) : Int := halve (fun q => belowB m q d) 4000 0 (36 * d + 1)
theorem halve_step {f : Int → Bool} {low high : Int} (hd : high - low > 1) (hw : high - low ≤ 4001) : halve f 4000 low high = if f ((low + high) / 2) then halve f 4000 low ((low + high) / 2) else halve f 4000 ((low + high) / 2) high := by
  have h0 : halve f 4000 low high = halve f (3999 + 1) low high := rfl
  rw [h0]
  conv => lhs; unfold halve
  rw [if_pos hd]
  have h1 := halve_fuel (f := f) 3999 low ((low + high) / 2) (by omega)
  have h2 := halve_fuel (f := f) 3999 ((low + high) / 2) high (by omega)
  rw [← h1, ← h2]
end Go.Mx

/- Plain laws: paths between vertices, and the sets of vertices that reach each other. No dump is imported. -/
namespace Go.Mx
open Go

/-- between which vertices there are paths by way of vertices below k -/
def warF (M : Nat → Nat → Bool) : Nat → Nat → Nat → Bool
  | 0, i, j => M i j
  | k + 1, i, j => warF M k i j || (warF M k i k && warF M k k j)
theorem war_to (M : Nat → Nat → Bool) (k i : Nat) : warF M (k + 1) i k = warF M k i k := by
  simp only [warF]; cases warF M k i k <;> simp
theorem war_from (M : Nat → Nat → Bool) (k j : Nat) : warF M (k + 1) k j = warF M k k j := by
  simp only [warF]; cases warF M k k j <;> simp
theorem war_mono (M : Nat → Nat → Bool) (k i j : Nat) (h : warF M k i j = true) : warF M (k + 1) i j = true := by simp [warF, h]
theorem war_trans (M : Nat → Nat → Bool) : ∀ (k x i j : Nat), x < k → warF M k i x = true → warF M k x j = true → warF M k i j = true
  | k + 1, x, i, j, hx, h1, h2 => by
    by_cases e : x = k
    · subst e
      rw [war_to] at h1
      rw [war_from] at h2
      simp [warF, h1, h2]
    · have IH := fun i j => war_trans M k x i j (by omega)
      simp only [warF, Bool.or_eq_true, Bool.and_eq_true] at h1 h2 ⊢
      rcases h1 with h1 | ⟨h1, h1'⟩ <;> rcases h2 with h2 | ⟨h2, h2'⟩
      · exact .inl (IH i j h1 h2)
      · exact .inr ⟨IH i k h1 h2, h2'⟩
      · exact .inr ⟨h1, IH k j h1' h2⟩
      · exact .inr ⟨h1, h2'⟩
theorem war_first (M : Nat → Nat → Bool) : ∀ (k i j : Nat), warF M k i j = true → ∃ x, M i x = true ∧ (x = j ∨ warF M k x j = true)
  | 0, i, j, h => ⟨j, h, .inl rfl⟩
  | k + 1, i, j, h => by
    simp only [warF, Bool.or_eq_true, Bool.and_eq_true] at h
    rcases h with h | ⟨h1, h2⟩
    · obtain ⟨x, hx, hy⟩ := war_first M k i j h
      exact ⟨x, hx, hy.imp id fun h => war_mono M k x j h⟩
    · obtain ⟨x, hx, hy⟩ := war_first M k i k h1
      refine ⟨x, hx, .inr ?_⟩
      rcases hy with rfl | hy
      · exact war_mono M x x j h2
      · simp [warF, hy, h2]
theorem war_base (M : Nat → Nat → Bool) (i j : Nat) (h : M i j = true) : ∀ k, warF M k i j = true
  | 0 => h
  | k + 1 => war_mono M k i j (war_base M i j h k)

def b2i (b : Bool) : Int := if b = true then 1 else 0
/-- in place: stage k, the entries before (i, j) done -/
def warTo (M : Nat → Nat → Bool) (k i j p q : Nat) : Int := b2i (if doneB i j p q = true then warF M (k + 1) p q else warF M k p q)
theorem warTo_start (M : Nat → Nat → Bool) (n k : Nat) : tabF n n (warTo M k 0 0) = tabF n n fun p q => b2i (warF M k p q) := by
  apply tabF_congr
  intro p q _ _
  have h : doneB 0 0 p q = false := by simp [doneB]
  unfold warTo; rw [h]; rfl
theorem warTo_set (M : Nat → Nat → Bool) (n k i j : Nat) (hi : i < n) : setM (tabF n n (warTo M k i j)) i j (b2i (warF M (k + 1) i j)) = tabF n n (warTo M k i (j + 1)) := by
  rw [setM_tabF _ _ _ _ _ hi]
  apply tabF_congr
  intro p q _ _
  unfold updF warTo
  rw [doneB_succ]
  by_cases e : p = i ∧ q = j
  · obtain ⟨rfl, rfl⟩ := e
    simp
  · have e2 : (decide (p = i) && decide (q = j)) = false := by
      by_cases e1 : p = i
      · have : q ≠ j := fun e2 => e ⟨e1, e2⟩
        simp [this]
      · simp [e1]
    rw [if_neg e, e2, Bool.or_false]
theorem warTo_row (M : Nat → Nat → Bool) (n k i : Nat) : tabF n n (warTo M k i n) = tabF n n (warTo M k (i + 1) 0) := by
  apply tabF_congr
  intro p q _ hq
  have h : doneB i n p q = doneB (i + 1) 0 p q := by rw [Bool.eq_iff_iff]; simp [doneB]; omega
  unfold warTo; rw [h]
theorem warTo_next (M : Nat → Nat → Bool) (n k : Nat) : tabF n n (warTo M k n 0) = tabF n n (warTo M (k + 1) 0 0) := by
  rw [warTo_start]
  apply tabF_congr
  intro p q hp _
  have h : doneB n 0 p q = true := by simp [doneB]; omega
  unfold warTo; rw [h]; rfl
theorem warTo_at (M : Nat → Nat → Bool) (n k i j : Nat) (hi : i < n) (hj : j < n) : ((tabF n n (warTo M k i j)).getD i []).getD j 0 = b2i (warF M k i j) := by
  have h : doneB i j i j = false := by simp [doneB]
  rw [tabF_at _ _ _ _ _ hi hj]; unfold warTo; rw [h]; rfl
theorem warTo_to (M : Nat → Nat → Bool) (n k i j : Nat) (hi : i < n) (hk : k < n) : ((tabF n n (warTo M k i j)).getD i []).getD k 0 = b2i (warF M k i k) := by
  rw [tabF_at _ _ _ _ _ hi hk]; unfold warTo; rw [war_to]; split <;> rfl
theorem warTo_from (M : Nat → Nat → Bool) (n k i j : Nat) (hk : k < n) (hj : j < n) : ((tabF n n (warTo M k i j)).getD k []).getD j 0 = b2i (warF M k k j) := by
  rw [tabF_at _ _ _ _ _ hk hj]; unfold warTo; rw [war_from]; split <;> rfl
def arcB (m : List (List Int)) (i j : Nat) : Bool := decide (0 < at2 m i j)
def reachB (m : List (List Int)) (i j : Nat) : Bool := warF (arcB m) m.length i j
def reachM (m : List (List Int)) : List (List Int) := tabF m.length m.length fun i j => b2i (reachB m i j)

/-! ### components -/
def eqB (m : List (List Int)) (i j : Nat) : Bool := reachB m i j && reachB m j i
theorem eqB_symm (m : List (List Int)) (i j : Nat) : eqB m i j = eqB m j i := by unfold eqB; rw [Bool.and_comm]
theorem eqB_trans (m : List (List Int)) (i x j : Nat) (hx : x < m.length) (h1 : eqB m i x = true) (h2 : eqB m x j = true) : eqB m i j = true := by
  unfold eqB at *
  simp only [Bool.and_eq_true] at *
  exact ⟨war_trans _ _ x i j hx h1.1 h2.1, war_trans _ _ x j i hx h2.2 h1.2⟩
def partOf (m : List (List Int)) (i k : Nat) : List Int := ((List.range k).filter fun j => eqB m i j).map fun j : Nat => (j : Int)
theorem partOf_zero (m : List (List Int)) (i : Nat) : partOf m i 0 = [] := rfl
theorem partOf_yes (m : List (List Int)) (i k : Nat) (h : eqB m i k = true) : partOf m i (k + 1) = partOf m i k ++ [(k : Int)] := by
  simp [partOf, List.range_succ, List.filter_append, h]
theorem partOf_no (m : List (List Int)) (i k : Nat) (h : eqB m i k = false) : partOf m i (k + 1) = partOf m i k := by
  simp [partOf, List.range_succ, List.filter_append, h]
theorem partOf_length (m : List (List Int)) (i k : Nat) : (partOf m i k).length ≤ k := by
  unfold partOf
  rw [List.length_map]
  have := List.length_filter_le (fun j => eqB m i j) (List.range k)
  rwa [List.length_range] at this
/-- i is the least vertex of its component -/
def headB (m : List (List Int)) (i : Nat) : Bool := eqB m i i && (List.range i).all fun q => !eqB m q i
def seenB (m : List (List Int)) (i j : Nat) : Bool := (List.range i).any fun q => eqB m q j
theorem seenB_succ (m : List (List Int)) (i j : Nat) : seenB m (i + 1) j = (seenB m i j || eqB m i j) := by simp [seenB, List.range_succ]
theorem headB_of (m : List (List Int)) (i : Nat) : headB m i = (!seenB m i i && reachB m i i) := by
  unfold headB seenB
  have e : eqB m i i = reachB m i i := by unfold eqB; simp
  rw [e, List.not_any_eq_all_not, Bool.and_comm]
/-- what is seen of a vertex that is seen, is seen -/
theorem seenB_seen (m : List (List Int)) (i j : Nat) (h : seenB m i i = true) (h2 : i < m.length) : seenB m (i + 1) j = seenB m i j := by
  rw [seenB_succ]
  cases hj : eqB m i j with
  | false => simp
  | true =>
    unfold seenB at h ⊢
    rw [List.any_eq_true] at h
    obtain ⟨q, hq, he⟩ := h
    have : (List.range i).any (fun q => eqB m q j) = true := by
      rw [List.any_eq_true]
      exact ⟨q, hq, eqB_trans m q i j h2 he hj⟩
    rw [this]; rfl
theorem seenB_off (m : List (List Int)) (i j : Nat) (h : reachB m i i = false) (h2 : j < m.length) : seenB m (i + 1) j = seenB m i j := by
  rw [seenB_succ]
  cases hj : eqB m i j with
  | false => simp
  | true =>
    have h3 := eqB_trans m i j i h2 hj (by rw [eqB_symm]; exact hj)
    unfold eqB at h3
    rw [h] at h3
    simp at h3
def compTo (m : List (List Int)) (i : Nat) : List (List Int) := (List.range i).flatMap fun p => if headB m p = true then [partOf m p m.length] else []
theorem compTo_yes (m : List (List Int)) (i : Nat) (h : headB m i = true) : compTo m (i + 1) = compTo m i ++ [partOf m i m.length] := by simp [compTo, List.range_succ, h]
theorem compTo_no (m : List (List Int)) (i : Nat) (h : headB m i = false) : compTo m (i + 1) = compTo m i := by simp [compTo, List.range_succ, h]
def compL (m : List (List Int)) : List (List Int) := compTo m m.length
theorem compTo_length (m : List (List Int)) : ∀ i, (compTo m i).length ≤ i
  | 0 => by simp [compTo]
  | i + 1 => by
    have := compTo_length m i
    cases h : headB m i with
    | true => rw [compTo_yes m i h, List.length_append, List.length_singleton]; omega
    | false => rw [compTo_no m i h]; omega
/-- the head of what is filtered -/
theorem filter_head (p : Nat → Bool) (i : Nat) : ∀ k, i < k → p i = true → ((List.range i).all fun q => !p q) = true → (((List.range k).filter p).map fun j : Nat => (j : Int)).getD 0 (-1) = (i : Int)
  | 0, h, _, _ => by omega
  | k + 1, hk, hp, ha => by
    by_cases e : i = k
    · subst e
      have hn : (List.range i).filter p = [] := by
        rw [List.filter_eq_nil_iff]
        intro q hq
        have := List.all_eq_true.1 ha q hq
        simpa using this
      rw [List.range_succ, List.filter_append, hn]
      simp [hp]
    · have ih := filter_head p i k (by omega) hp ha
      rw [List.range_succ, List.filter_append, List.map_append]
      rw [List.getD_eq_getElem?_getD] at ih ⊢
      cases hl : ((List.range k).filter p).map fun j : Nat => (j : Int) with
      | nil => rw [hl] at ih; simp at ih
      | cons x l => rw [hl] at ih; simpa using ih
theorem filter_other (p : Nat → Bool) (i : Nat) (h : p i = false ∨ ∃ q, q < i ∧ p q = true) : ∀ k, (((List.range k).filter p).map fun j : Nat => (j : Int)).getD 0 (-1) ≠ (i : Int)
  | 0 => by simp
  | k + 1 => by
    have ih := filter_other p i h k
    rw [List.range_succ, List.filter_append, List.map_append]
    rw [List.getD_eq_getElem?_getD] at ih ⊢
    cases hl : ((List.range k).filter p).map fun j : Nat => (j : Int) with
    | cons x l => rw [hl] at ih; simpa using ih
    | nil =>
      by_cases hk : p k = true
      · simp [hk]
        intro e
        have e : k = i := by omega
        subst e
        rcases h with h | ⟨q, hq, hpq⟩
        · rw [h] at hk; cases hk
        · have hl2 : (List.range k).filter p = [] := by simpa using hl
          rw [List.filter_eq_nil_iff] at hl2
          exact hl2 q (List.mem_range.2 hq) hpq
      · simp [hk]
theorem partOf_head (m : List (List Int)) (i : Nat) (hi : i < m.length) : headB m i = (decide (0 < (partOf m i m.length).length) && decide ((partOf m i m.length).getD 0 (-1) = (i : Int))) := by
  cases h : headB m i with
  | true =>
    have h2 := h
    simp only [headB, Bool.and_eq_true] at h2
    have h3 := filter_head (fun j => eqB m i j) i m.length hi h2.1 (by
      refine List.all_eq_true.2 ?_
      intro q hq
      rw [eqB_symm]
      exact List.all_eq_true.1 h2.2 q hq)
    have h4 : (partOf m i m.length).getD 0 (-1) = (i : Int) := h3
    have h5 : 0 < (partOf m i m.length).length := by
      rcases Nat.eq_zero_or_pos (partOf m i m.length).length with h0 | h0
      · rw [List.eq_nil_of_length_eq_zero h0] at h4; simp at h4
      · exact h0
    rw [h4, decide_eq_true h5]
    simp
  | false =>
    have h3 : (partOf m i m.length).getD 0 (-1) ≠ (i : Int) := by
      apply filter_other
      unfold headB at h
      rw [Bool.and_eq_false_iff, List.all_eq_false] at h
      rcases h with h | ⟨q, hq, h⟩
      · exact .inl h
      · refine .inr ⟨q, List.mem_range.1 hq, ?_⟩
        simp at h
        rw [eqB_symm]; exact h
    rw [decide_eq_false h3, Bool.and_false]

/-! ### a component is light -/
/-- the program: no row of a component adds up to more than 1 -/
def lightP (m : List (List Int)) : Bool := (compL m).all fun l => (partL m l).all fun r => decide (r.sum ≤ 1)
/-- the reference: each component's sum is its size -/
def lightR (m : List (List Int)) : Bool := (compL m).all fun l => decide (sumM (partL m l) = (l.length : Int))
theorem mem_partOf (m : List (List Int)) (i k : Nat) (x : Int) : x ∈ partOf m i k ↔ ∃ j : Nat, x = (j : Int) ∧ j < k ∧ eqB m i j = true := by
  simp only [partOf, List.mem_map, List.mem_filter, List.mem_range]
  constructor
  · rintro ⟨j, ⟨h1, h2⟩, rfl⟩; exact ⟨j, rfl, h1, h2⟩
  · rintro ⟨j, rfl, h1, h2⟩; exact ⟨j, ⟨h1, h2⟩, rfl⟩
theorem sum_ge_mem {l : List Int} (h : ∀ x ∈ l, 0 ≤ x) {y : Int} (hy : y ∈ l) : y ≤ l.sum := by
  induction l with
  | nil => cases hy
  | cons a l ih =>
    have h0 : 0 ≤ l.sum := by
      clear ih hy
      induction l with
      | nil => simp
      | cons b l ih2 =>
        have := ih2 (fun x hx => h x (by rcases List.mem_cons.1 hx with rfl | hx <;> simp_all))
        have := h b (by simp)
        simp only [List.sum_cons]; omega
    have ha := h a (by simp)
    simp only [List.sum_cons]
    rcases List.mem_cons.1 hy with rfl | hy
    · omega
    · have := ih (fun x hx => h x (List.mem_cons_of_mem _ hx)) hy
      omega
/-- each vertex of a component has an arc into it -/
theorem comp_row_pos {m : List (List Int)} (hm : ∀ i j, 0 ≤ at2 m i j) (hn : ∀ i j, ¬ (i < m.length ∧ j < m.length) → at2 m i j = 0) {i : Nat} {x : Int} (hx : x ∈ partOf m i m.length) : 1 ≤ ((partOf m i m.length).map fun j => (m.getD x.toNat []).getD j.toNat 0).sum := by
  obtain ⟨a, rfl, ha, he⟩ := (mem_partOf m i m.length _).1 hx
  have haa := eqB_trans m a i a (by
    by_cases hi : i < m.length
    · exact hi
    · exfalso
      unfold eqB at he
      simp only [Bool.and_eq_true] at he
      obtain ⟨y, hy, _⟩ := war_first _ _ _ _ he.1
      unfold arcB at hy
      rw [hn i y (by omega)] at hy
      simp at hy) (by rw [eqB_symm]; exact he) he
  unfold eqB at haa
  simp only [Bool.and_eq_true] at haa
  obtain ⟨y, hy, hz⟩ := war_first _ _ _ _ haa.1
  have hyl : y < m.length := by
    by_cases h : y < m.length
    · exact h
    · unfold arcB at hy
      rw [hn a y (by omega)] at hy
      simp at hy
  have hay : eqB m a y = true := by
    unfold eqB
    rw [Bool.and_eq_true]
    refine ⟨war_base _ _ _ hy _, ?_⟩
    rcases hz with rfl | hz
    · exact haa.1
    · exact hz
  have hiy := eqB_trans m i a y ha he hay
  have hmem : (m.getD ((a : Int)).toNat []).getD ((y : Int)).toNat 0 ∈ (partOf m i m.length).map fun j => (m.getD ((a : Int)).toNat []).getD j.toNat 0 :=
    List.mem_map_of_mem ((mem_partOf m i m.length _).2 ⟨y, rfl, hyl, hiy⟩)
  have h1 := sum_ge_mem (fun z hz => by
    rw [List.mem_map] at hz
    obtain ⟨j, _, e⟩ := hz
    rw [← e]; exact hm _ _) hmem
  have h2 : 1 ≤ (m.getD ((a : Int)).toNat []).getD ((y : Int)).toNat 0 := by
    unfold arcB at hy
    have : 0 < at2 m a y := by simpa using hy
    have e1 : ((a : Nat) : Int).toNat = a := by omega
    have e2 : ((y : Nat) : Int).toNat = y := by omega
    rw [e1, e2]
    unfold at2 at this
    omega
  omega
theorem sumM_map (t : List (List Int)) : sumM t = (t.map List.sum).sum := by
  unfold sumM sumTo
  congr 1
  apply List.ext_getElem
  · simp
  · intro i h1 h2
    simp at h1
    simp [List.getD_eq_getElem?_getD, List.getElem?_eq_getElem h1]
theorem all_one_iff : ∀ (l : List (List Int)), (∀ r ∈ l, 1 ≤ r.sum) → ((l.all fun r => decide (r.sum ≤ 1)) = decide ((l.map List.sum).sum = (l.length : Int)) ∧ (l.length : Int) ≤ (l.map List.sum).sum)
  | [], _ => by simp
  | r :: l, h => by
    obtain ⟨h1, h2⟩ := all_one_iff l fun x hx => h x (List.mem_cons_of_mem _ hx)
    have h3 := h r (by simp)
    simp only [List.all_cons, List.map_cons, List.sum_cons, List.length_cons, h1]
    refine ⟨?_, by omega⟩
    rw [Bool.eq_iff_iff]; simp; omega
theorem compL_mem {m : List (List Int)} {l : List Int} (h : l ∈ compL m) : ∃ i, i < m.length ∧ headB m i = true ∧ l = partOf m i m.length := by
  simp only [compL, compTo, List.mem_flatMap, List.mem_range] at h
  obtain ⟨i, hi, h⟩ := h
  split at h
  · next hh => exact ⟨i, hi, hh, by simpa using h⟩
  · simp at h
theorem light_same {m : List (List Int)} (hm : ∀ i j, 0 ≤ at2 m i j) (hn : ∀ i j, ¬ (i < m.length ∧ j < m.length) → at2 m i j = 0) : lightP m = lightR m := by
  unfold lightP lightR
  rw [Bool.eq_iff_iff, List.all_eq_true, List.all_eq_true]
  have key : ∀ l ∈ compL m, ((partL m l).all fun r => decide (r.sum ≤ 1)) = decide (sumM (partL m l) = (l.length : Int)) := by
    intro l hl
    obtain ⟨i, hi, _, rfl⟩ := compL_mem hl
    have := (all_one_iff (partL m (partOf m i m.length)) (by
      intro r hr
      simp only [partL, List.mem_map] at hr
      obtain ⟨x, hx, rfl⟩ := hr
      exact comp_row_pos hm hn hx)).1
    rw [this, sumM_map, partL_length]
  constructor
  · intro h l hl; rw [← key l hl]; exact h l hl
  · intro h l hl; rw [key l hl]; exact h l hl
end Go.Mx


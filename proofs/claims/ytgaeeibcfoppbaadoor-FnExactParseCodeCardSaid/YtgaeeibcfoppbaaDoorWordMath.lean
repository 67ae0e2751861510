/- Words by their index. No program in sight. -/
import Derived.Test.YtgaeeibcfoppbaaDoorCodeMath
import Derived.Test.YtgaeeibcfoppbaaDoorOwn
namespace Go.Cm

/-- the letter at an index -/
def letN (y : Nat) : UInt8 := UInt8.ofNat (97 + y)

/-- The word of length n with k letters at an index. -/
def wordL (k : Nat) : Nat → Nat → List UInt8
  | 0, _ => []
  | n + 1, i => wordL k n (i / k) ++ [letN (i % k)]
theorem wordL_length (k : Nat) : ∀ n i, (wordL k n i).length = n
  | 0, _ => rfl
  | n + 1, i => by simp [wordL, wordL_length k n]

/-- All words of a length. -/
def wordsL (k n : Nat) : List (List UInt8) := (List.range (k ^ n)).map (wordL k n)
/-- as texts -/
def mkS (l : List UInt8) : ByteArray := ⟨l.toArray⟩
theorem mkS_size (l : List UInt8) : (mkS l).size = l.length := by simp [mkS, ByteArray.size]
theorem mkS_data (l : List UInt8) : (mkS l).data.toList = l := by simp [mkS]

theorem mkS_get (l : List UInt8) (a : Nat) (h : a < (mkS l).size) : (mkS l)[a] = l.getD a 0 := by
  have h' : a < l.length := by rw [← mkS_size]; exact h
  show (mkS l).data[a]'h = _
  simp [mkS, List.getD_eq_getElem?_getD, List.getElem?_eq_getElem h']
theorem mkS_data_self (s : ByteArray) : mkS s.data.toList = s := by
  obtain ⟨⟨l⟩⟩ := s
  rfl

theorem mkS_append (l r : List UInt8) : mkS l ++ mkS r = mkS (l ++ r) := by
  show ByteArray.append _ _ = _
  apply ByteArray.ext
  simp [mkS, ByteArray.append]
theorem abc_at (y : Nat) (h : y < 3) : (ByteArray.mk #[97, 98, 99]).extract y (y + 1) = mkS [letN y] := by
  match y, h with
  | 0, _ => rfl
  | 1, _ => rfl
  | 2, _ => rfl

theorem mkS_slice (u : List UInt8) (a : Nat) (h : a < u.length) : (mkS u).extract a (a + 1) = mkS [u.getD a 0] := by
  apply ByteArray.ext
  apply Array.ext'
  rw [Lib.extract_data, mkS_data, mkS_data]
  rw [List.getD_eq_getElem?_getD, List.getElem?_eq_getElem h]
  rw [List.drop_eq_getElem_cons h, show a + 1 - a = 1 by omega]
  rfl

theorem range_mul (m k : Nat) : List.range (m * k) = (List.range m).flatMap fun q => (List.range k).map fun x => q * k + x := by
  induction m with
  | zero => simp
  | succ m ih =>
    rw [List.range_succ, List.flatMap_append, ← ih, Nat.succ_mul, List.range_add]
    simp

theorem wordsL_succ (k n : Nat) (hk : 0 < k) : wordsL k (n + 1) = (wordsL k n).flatMap fun u => (List.range k).map fun x => u ++ [letN x] := by
  unfold wordsL
  rw [Nat.pow_succ, range_mul, List.map_flatMap, List.flatMap_map]
  congr 1
  funext q
  rw [List.map_map]
  apply List.map_congr_left
  intro x hx
  have hx' : x < k := by simpa using hx
  simp only [Function.comp, wordL]
  have h1 : (q * k + x) / k = q := by
    rw [Nat.add_comm, Nat.add_mul_div_right _ _ hk, Nat.div_eq_of_lt hx', Nat.zero_add]
  have h2 : (q * k + x) % k = x := by
    rw [Nat.add_comm, Nat.add_mul_mod_self_right, Nat.mod_eq_of_lt hx']
  rw [h1, h2]
theorem wordsL_zero (k : Nat) : wordsL k 0 = [[]] := by simp [wordsL, wordL]

theorem ofNat_toNat {n : Nat} (h : n < 256) : ((UInt8.ofNat n).toNat : Int) = n := by
  have : (UInt8.ofNat n).toNat = n % 256 := by simp
  rw [this, Nat.mod_eq_of_lt h]
end Go.Cm

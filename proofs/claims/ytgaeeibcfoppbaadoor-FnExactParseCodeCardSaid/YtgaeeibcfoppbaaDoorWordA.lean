/- Contracts: the word at an index, the words of a length. -/
import Derived.Test.YtgaeeibcfoppbaaDoorCodeA
import Derived.Test.YtgaeeibcfoppbaaDoorFacts
import Derived.Test.YtgaeeibcfoppbaaDoorWordMath
namespace Go.Proofs.YtgaeeibcfoppbaaDoor
open Go.RowKit Go.Cm

/-- where the loop of wordAt stands: k letters are still to come -/
structure WordSt (K n i0 : Nat) (k rest : Nat) (fs : List Value) : Prop where
  le : k ≤ n
  len : fs.length = n
  word : ∃ t : List UInt8, wordL K k rest ++ t = wordL K n i0 ∧ fs.drop k = bcells t

theorem wordSt_start (K n i : Nat) : WordSt K n i n i (List.replicate n (.int .u8 0)) :=
  ⟨Nat.le_refl _, by simp, [], by simp, by simp [bcells]⟩
theorem wordSt_step {K n i0 k rest : Nat} {fs : List Value} (hK : K ≤ 3) (hK0 : 0 < K) (h : WordSt K n i0 (k + 1) rest fs) : WordSt K n i0 k (rest / K) (fs.set k (.int .u8 ((97 : Int) + (rest : Int) % (K : Int)))) := by
  obtain ⟨hle, hlen, t, ht, hf⟩ := h
  refine ⟨by omega, by simpa using hlen, letN (rest % K) :: t, ?_, ?_⟩
  · rw [← ht]; simp [wordL]
  · have hk : k < fs.length := by omega
    rw [List.drop_eq_getElem_cons (by simpa using hk)]
    simp only [List.getElem_set_self, bcells, List.map_cons]
    have hm : rest % K < K := Nat.mod_lt _ hK0
    unfold letN
    rw [ofNat_toNat (by omega)]
    have e : ((97 + rest % K : Nat) : Int) = (97 : Int) + (rest : Int) % (K : Int) := by simp
    rw [e]
    congr 1
    rw [List.drop_set_of_lt (by omega)]
    exact hf
theorem wordSt_end {K n i0 rest : Nat} {fs : List Value} (h : WordSt K n i0 0 rest fs) : fs = bcells (wordL K n i0) := by
  obtain ⟨_, _, t, ht, hf⟩ := h
  have : t = wordL K n i0 := by simpa [wordL] using ht
  rw [← this]; simpa using hf

theorem wordsL_take (k n j : Nat) (hj : j < k ^ n) : (wordsL k n).take (j + 1) = (wordsL k n).take j ++ [wordL k n j] := by
  rw [List.take_succ_eq_append_getElem (by simpa [wordsL] using hj)]
  simp [wordsL]
theorem wordsL_all (k n : Nat) : (wordsL k n).take (k ^ n) = wordsL k n := List.take_of_length_le (by simp [wordsL])
theorem wordsL_take_length (k n j : Nat) (hj : j ≤ k ^ n) : ((wordsL k n).take j).length = j := by simp [wordsL]; omega
/-- words as cells -/
def scells (l : List (List UInt8)) : List Value := l.map fun u => .string (mkS u)
theorem pw_nat (K n : Nat) : pw (K : Int) (n : Int) = ((K ^ n : Nat) : Int) := by simp [pw]

end Go.Proofs.YtgaeeibcfoppbaaDoor

/- Contracts: what a word is, the letter that a code gives, a code on a word: the reference's. -/
import Derived.Test.YtgaeeibcfoppbaaDoorApplyB
namespace Go.Proofs.YtgaeeibcfoppbaaDoor
open Go.RowKit Go.Cm

theorem wordOk_at {k : Int} {s : ByteArray} {i : Nat} (hi : i < s.size) (h1 : ¬ (97 ≤ (s[i].toNat : Int) ∧ (s[i].toNat : Int) - 97 < k)) : wordOk k s = false := by
  unfold wordOk
  rw [areLet_bad hi h1]
  simp

end Go.Proofs.YtgaeeibcfoppbaaDoor

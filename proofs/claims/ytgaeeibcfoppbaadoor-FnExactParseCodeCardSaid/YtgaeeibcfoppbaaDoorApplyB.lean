/- Contracts: the letter that a code gives, a code on a word: the program's. -/
import Derived.Test.YtgaeeibcfoppbaaDoorApplyA
namespace Go.Proofs.YtgaeeibcfoppbaaDoor
open Go.RowKit Go.Cm

/-- a code that is right -/
structure CodeFit (K n : Nat) (o : ByteArray) : Prop where
  k2 : 2 ≤ K
  k3 : K ≤ 3
  n1 : 1 ≤ n
  n4 : n ≤ 4
  le : K ^ n ≤ 27
  size : o.size = K ^ n
  lets : areLet K o.data.toList = true

theorem codeFit_of {L W : Int} {o : ByteArray} (h : codeOk L W o = true) : ∃ K n : Nat, L = K ∧ W = n ∧ CodeFit K n o := by
  obtain ⟨K, n, h1, h2, a, b, c, d, e, f, g⟩ := codeOk_parts h
  exact ⟨K, n, h1, h2, ⟨a, b, c, d, e, f, g⟩⟩

theorem givesL_eq {K n : Nat} {o : ByteArray} (hf : CodeFit K n o) {u : List UInt8} (hl : u.length = n) (ha : areLet K u = true) : ∃ h : idxL K u < o.size, givesL K o u = o[idxL K u] := by
  have h1 := idxL_lt K u ha
  rw [hl, ← hf.size] at h1
  refine ⟨h1, ?_⟩
  unfold givesL
  rw [List.getD_eq_getElem?_getD, List.getElem?_eq_getElem (by simpa using h1)]
  rfl

end Go.Proofs.YtgaeeibcfoppbaaDoor

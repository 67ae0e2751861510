/- Contract: the program's countSources. -/
import Derived.Test.YtgbbidlbdjbilaaDoorMade
import Derived.Test.YtgbbidlbdjbilaaDoorFrame
import Derived.Test.YtgbbidlbdjbilaaDoorApplyB
import Derived.Test.YtgbbidlbdjbilaaDoorSrcMath
namespace Go.Proofs.YtgbbidlbdjbilaaDoor
open Go.RowKit Go.Cm

theorem Own.other {w : World} {B : Nat} {E : TypeId} {g n cap : Nat} {fs : List Value} (h : Own w B E (.slice (some ⟨g, 0, none⟩) n cap) fs) {g2 : Nat} (hne : g2 ≠ g) (j : Nat) (u : Value) : Own (w.setCell ⟨g2, j, none⟩ u) B E (.slice (some ⟨g, 0, none⟩) n cap) fs :=
  GB.own (GB.setCell (GB.refl w (some g2)) j u) h (by intro k hk; simp [Value.ownBlock] at hk ⊢; omega)

/-- ones first, then zeros -/
def fillL (N k : Nat) : List Nat := List.replicate k 1 ++ List.replicate (N - k) 0
theorem fillL_set (N k : Nat) (h : k < N) : (fillL N k).set k 1 = fillL N (k + 1) := by
  unfold fillL
  rw [List.set_append_right _ _ (by simp), List.length_replicate, Nat.sub_self, show N - k = (N - (k + 1)) + 1 by omega, List.replicate_succ, List.set_cons_zero, List.replicate_succ', List.append_assoc]
  rfl
theorem fillL_length (N k : Nat) (h : k ≤ N) : (fillL N k).length = N := by simp [fillL]; omega

end Go.Proofs.YtgbbidlbdjbilaaDoor

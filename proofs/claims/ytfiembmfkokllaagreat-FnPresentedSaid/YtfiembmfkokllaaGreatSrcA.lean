/- Contract: the program's countSources. -/
import Derived.Test.YtfiembmfkokllaaGreatPkD
import Derived.Test.YtfiembmfkokllaaGreatPkE
import Derived.Test.YtfiembmfkokllaaGreatPkA
namespace Go.Proofs.YtfiembmfkokllaaGreat
open Go.RowKit Go.Cm

theorem Own.other {w : World} {B : Nat} {E : TypeId} {g n cap : Nat} {fs : List Value} (h : Own w B E (.slice (some ⟨g, 0, none⟩) n cap) fs) {g2 : Nat} (hne : g2 ≠ g) (j : Nat) (u : Value) : Own (w.setCell ⟨g2, j, none⟩ u) B E (.slice (some ⟨g, 0, none⟩) n cap) fs :=
  GB.own (GB.setCell (GB.refl w (some g2)) j u) h (by intro k hk; simp [Value.ownBlock] at hk ⊢; omega)

end Go.Proofs.YtfiembmfkokllaaGreat

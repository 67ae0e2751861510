/- Contract: the reference's IsCode. -/
import Derived.Test.YtngbibaphakifaaDoorCodeA
namespace Go.Proofs.YtngbibaphakifaaDoor
open Go.RowKit Go.Cm

theorem codeOk_at {L W : Int} {s : ByteArray} {k : Nat} (hk : k < s.size) (h1 : ¬ (97 ≤ (s[k].toNat : Int) ∧ (s[k].toNat : Int) - 97 < L)) : codeOk L W s = false := by
  unfold codeOk
  rw [areLet_bad hk h1]
  simp

end Go.Proofs.YtngbibaphakifaaDoor

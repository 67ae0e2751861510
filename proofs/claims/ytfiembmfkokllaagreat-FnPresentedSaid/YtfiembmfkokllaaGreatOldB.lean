/- The bytes of a draw, kept. -/
import Derived.Test.YtfiembmfkokllaaGreatPkR
namespace Go.Proofs.YtfiembmfkokllaaGreat
open Go.RowKit Go.Cm
/-- the bytes of the draw lie below B -/
def OldB (B : Nat) (w : World) (v : Value) (xs : List UInt8) : Prop := B ≤ w.heap.size ∧ ∀ w', (∀ k, k < B → w'.heap[k]? = w.heap[k]?) → ReadsB w' v xs
theorem OldB.start {w : World} {v : Value} {xs : List UInt8} (h : ReadsB w v xs) : OldB w.heap.size w v xs := ⟨Nat.le_refl _, fun _ hb => Reads.old h hb⟩
theorem OldB.ext {B : Nat} {w w1 : World} {v : Value} {xs : List UInt8} (h : OldB B w v xs) (hx : Ext w w1) : OldB B w1 v xs :=
  ⟨Nat.le_trans h.1 hx.size, fun w' hb => h.2 w' fun k hk => (hb k hk).trans (hx.block k (Nat.lt_of_lt_of_le hk h.1))⟩
theorem OldB.new {B : Nat} {w : World} {v : Value} {xs : List UInt8} (h : OldB B w v xs) :
    Calls Tryz.prog 28 #[v] w fun e w' => ∃ z, e = .returned (.pointer (some ⟨z, 0, none⟩)) ∧ w.heap.size ≤ z ∧ Cur B w' z ∧ Ext w w' := spec_l1New_any B v xs w h.1 h.2
end Go.Proofs.YtfiembmfkokllaaGreat

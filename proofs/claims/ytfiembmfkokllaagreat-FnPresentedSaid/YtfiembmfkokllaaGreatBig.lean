/- Contract: is a draw too long. -/
import Derived.Test.YtfiembmfkokllaaGreatPkR
namespace Go.Proofs.YtfiembmfkokllaaGreat
open Go.RowKit Go.Cm

theorem laws_big_any (v : Value) (xs : List UInt8) (w : World) (h : ReadsB w v xs) :
    Calls Tryz.prog 4 #[v] w fun e w' => ∃ b : Bool, e = .returned (.bool b) ∧ w = w' := by
  obtain ⟨a, cap, rfl, hl, hm⟩ := h
  have hm := hm.1
  unfold maxLen at hm
  have hn : (xs.map fun c => Value.int .u8 (c.toNat : Int)).length ≤ 9223372036854775807 := by omega
  obtain ⟨n, hn'⟩ : ∃ n, n = (xs.map fun c => Value.int .u8 (c.toNat : Int)).length := ⟨_, rfl⟩
  rw [← hn'] at hn ⊢
  clear hl hn'
  go_enter Tryz.func4, Tryz.ntmps4
  go_wp2
  go_ret
  exact ⟨_, rfl, rfl⟩
end Go.Proofs.YtfiembmfkokllaaGreat

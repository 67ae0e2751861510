/- A shift that came in; sizes of what came in; rows apart. -/
import Derived.Test.YtgbbidlbdjbilaaDoorLawT
import Derived.Test.YtgbbidlbdjbilaaDoorOpen
import Derived.Test.YtgbbidlbdjbilaaDoorLawRes
import Derived.HandedShaped
namespace Go.Cm
theorem leftW_fits {l : Int} {F : List (List UInt8)} (hl : l ≤ 1048576) (h : 0 ≤ leftW l F) : F.length ≤ 1048576 ∧ sizeW F ≤ 1048576 ∧ leftW l F ≤ 1048576 := by
  unfold leftW at h ⊢
  by_cases hc : l - (F.length : Int) - (sizeW F : Int) < 0
  · rw [if_pos hc] at h; omega
  · rw [if_neg hc] at h ⊢; omega
end Go.Cm
namespace Go.Proofs.YtgbbidlbdjbilaaDoor
open Go.RowKit Go.Cm

theorem shift_arg {w : World} {u : Value} {xs : List ByteArray} (h : ReadsS w u xs ∧ ∀ s ∈ xs, s.size ≤ maxLen) : ∃ F, ReadsW w u F ∧ ∀ f ∈ F, f.length ≤ maxLen := by
  refine ⟨xs.map fun s => s.data.toList, ?_, fun f hf => ?_⟩
  · have h1 := h.1
    unfold ReadsS at h1
    unfold ReadsW scells
    rw [List.map_map]
    have e : (fun u => Value.string (mkS u)) ∘ (fun s : ByteArray => s.data.toList) = Value.string := by
      funext s
      simp [mkS_data_self]
    rw [e]
    exact h1
  · obtain ⟨s, hs, rfl⟩ := List.mem_map.1 hf
    exact h.2 s hs

/-- a row of words in a block below C -/
def RowB (w : World) (B C : Nat) (v : Value) (F : List (List UInt8)) : Prop := Own w B 9 v (scells F) ∧ ∀ k, v.ownBlock = some k → k < C
theorem RowB.of {w : World} {B : Nat} {v : Value} {F : List (List UInt8)} (h : Own w B 9 v (scells F)) : RowB w B w.heap.size v F := ⟨h, fun k hk => (World.ownsRow.lt h k hk).2⟩
theorem RowB.own {w : World} {B C : Nat} {v : Value} {F : List (List UInt8)} (h : RowB w B C v F) : Own w B 9 v (scells F) := h.1
theorem RowB.reads {w : World} {B C : Nat} {v : Value} {F : List (List UInt8)} (h : RowB w B C v F) : ReadsW w v F := Own.readsW h.1
theorem RowB.ext {w w' : World} {B C : Nat} {v : Value} {F : List (List UInt8)} (h : RowB w B C v F) (hx : Ext w w') : RowB w' B C v F := ⟨h.1.ext hx, h.2⟩
theorem RowB.gb {w w' : World} {B C B' C' : Nat} {v u : Value} {F G : List (List UInt8)} (h : RowB w B C v F) (k : RowB w B' C' u G) (hg : w.grownBy w' u.ownBlock) (hs : C ≤ B' ∨ C' ≤ B) : RowB w' B C v F :=
  ⟨GB.own hg h.1 fun j hj hj2 => by
    have h1 := h.2 j hj
    have h2 := k.2 j hj2
    have h3 := (World.ownsRow.lt h.1 j hj).1
    have h4 := (World.ownsRow.lt k.1 j hj2).1
    omega, h.2⟩
theorem RowB.extgb {a w w' : World} {B C : Nat} {u : Value} {G : List (List UInt8)} (h : Ext a w) (k : RowB w B C u G) (hg : w.grownBy w' u.ownBlock) (hB : a.heap.size ≤ B) : Ext a w' :=
  h.grown hg fun j hj => Nat.le_trans hB (World.ownsRow.lt k.1 j hj).1
theorem RowB.within {w w' : World} {B C : Nat} {u : Value} {G : List (List UInt8)} (k : RowB w B C u G) (hg : w.grownBy w' u.ownBlock) : Within B C w w' := by
  cases hb : u.ownBlock with
  | none =>
    rw [hb] at hg
    exact ⟨hg.os, hg.tape, hg.output, hg.size, fun i hi _ => hg.block i hi (by simp)⟩
  | some b =>
    rw [hb] at hg
    exact Within.grown hg (World.ownsRow.lt k.1 b hb).1 (k.2 b hb)
theorem maxLen_eq {n : Nat} (h : n ≤ 1048576) : n ≤ maxLen := by unfold maxLen; omega
end Go.Proofs.YtgbbidlbdjbilaaDoor

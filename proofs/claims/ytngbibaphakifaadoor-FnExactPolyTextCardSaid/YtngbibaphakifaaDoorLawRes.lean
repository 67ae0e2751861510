/- Results of the program's own memory, and how the laws mark them. -/
import Derived.Test.YtngbibaphakifaaDoorLawMatB
namespace Go.Proofs.YtngbibaphakifaaDoor
open Go.RowKit

/-- a table that the call has made, or none -/
def ResM (w : World) (B : Nat) (v : Value) (r : List (List Int)) : Prop :=
  (v = .slice none 0 0 ∧ r = []) ∨ ∃ g cap gs cs, v = .slice (some ⟨g, 0, none⟩) r.length cap ∧ MTab w B 22 3 g r.length cap gs cs r
/-- a list that the call has made, or none -/
def ResI (w : World) (B : Nat) (v : Value) (r : List Int) : Prop := Own w B 3 v (icells r)

theorem ResM.reads {w : World} {B : Nat} {v : Value} {r : List (List Int)} (h : ResM w B v r) : ReadsRows w v r := by
  rcases h with ⟨rfl, rfl⟩ | ⟨g, cap, gs, cs, rfl, ht⟩
  · exact ReadsRows.nil w _ none rfl
  · exact ht.reads rfl
theorem ResM.ext {w w' : World} {B : Nat} {v : Value} {r : List (List Int)} (h : ResM w B v r) (hx : Ext w w') : ResM w' B v r := by
  rcases h with h | ⟨g, cap, gs, cs, hv, ht⟩
  · exact .inl h
  · exact .inr ⟨g, cap, gs, cs, hv, ht.ext hx⟩
theorem ResM.mono {w : World} {B B' : Nat} {v : Value} {r : List (List Int)} (h : ResM w B v r) (hB : B' ≤ B) : ResM w B' v r := by
  rcases h with h | ⟨g, cap, gs, cs, hv, ht⟩
  · exact .inl h
  · exact .inr ⟨g, cap, gs, cs, hv, ht.mono hB⟩
theorem ResM.within {w w' : World} {B B1 C1 : Nat} {v : Value} {r : List (List Int)} (h : ResM w B v r) (k : Within B1 C1 w w') (hC : C1 ≤ B) : ResM w' B v r := by
  rcases h with h | ⟨g, cap, gs, cs, hv, ht⟩
  · exact .inl h
  · exact .inr ⟨g, cap, gs, cs, hv, ht.within k hC⟩
theorem ResI.reads {w : World} {B : Nat} {v : Value} {r : List Int} (h : ResI w B v r) : ReadsI w v r := Own.readsI h
theorem ResI.ext {w w' : World} {B : Nat} {v : Value} {r : List Int} (h : ResI w B v r) (hx : Ext w w') : ResI w' B v r := Own.ext h hx
theorem ResI.mono {w : World} {B B' : Nat} {v : Value} {r : List Int} (h : ResI w B v r) (hB : B' ≤ B) : ResI w B' v r := Own.mono h hB
theorem ResI.within {w w' : World} {B B1 C1 : Nat} {v : Value} {r : List Int} (h : ResI w B v r) (k : Within B1 C1 w w') (hC : C1 ≤ B) : ResI w' B v r := Own.within k h hC

/-- .. with a bound on its blocks -/
def ResMC (w : World) (B C : Nat) (v : Value) (r : List (List Int)) : Prop :=
  (v = .slice none 0 0 ∧ r = []) ∨ ∃ g cap gs cs, v = .slice (some ⟨g, 0, none⟩) r.length cap ∧ MTab w B 22 3 g r.length cap gs cs r ∧ ∀ i, i < r.length → gs i < C
def ResIC (w : World) (B C : Nat) (v : Value) (r : List Int) : Prop := ResI w B v r ∧ ∀ k, v.ownBlock = some k → k < C
theorem ResM.bound {w : World} {B : Nat} {v : Value} {r : List (List Int)} (h : ResM w B v r) : ResMC w B w.heap.size v r := by
  rcases h with h | ⟨g, cap, gs, cs, hv, ht⟩
  · exact .inl h
  · exact .inr ⟨g, cap, gs, cs, hv, ht, fun i hi => (ht.rowlt i hi).2⟩
theorem ResMC.res {w : World} {B C : Nat} {v : Value} {r : List (List Int)} (h : ResMC w B C v r) : ResM w B v r := by
  rcases h with h | ⟨g, cap, gs, cs, hv, ht, _⟩
  · exact .inl h
  · exact .inr ⟨g, cap, gs, cs, hv, ht⟩
theorem ResMC.reads {w : World} {B C : Nat} {v : Value} {r : List (List Int)} (h : ResMC w B C v r) : ReadsRows w v r := h.res.reads
theorem ResMC.ext {w w' : World} {B C : Nat} {v : Value} {r : List (List Int)} (h : ResMC w B C v r) (hx : Ext w w') : ResMC w' B C v r := by
  rcases h with h | ⟨g, cap, gs, cs, hv, ht, hc⟩
  · exact .inl h
  · exact .inr ⟨g, cap, gs, cs, hv, ht.ext hx, hc⟩
theorem ResMC.within {w w' : World} {B C B1 C1 : Nat} {v : Value} {r : List (List Int)} (h : ResMC w B C v r) (k : Within B1 C1 w w') (hC : C1 ≤ B) : ResMC w' B C v r := by
  rcases h with h | ⟨g, cap, gs, cs, hv, ht, hc⟩
  · exact .inl h
  · exact .inr ⟨g, cap, gs, cs, hv, ht.within k hC, hc⟩
theorem ResI.bound {w : World} {B : Nat} {v : Value} {r : List Int} (h : ResI w B v r) : ResIC w B w.heap.size v r := ⟨h, fun k hk => (World.ownsRow.lt h k hk).2⟩
theorem ResIC.reads {w : World} {B C : Nat} {v : Value} {r : List Int} (h : ResIC w B C v r) : ReadsI w v r := h.1.reads
theorem ResIC.ext {w w' : World} {B C : Nat} {v : Value} {r : List Int} (h : ResIC w B C v r) (hx : Ext w w') : ResIC w' B C v r := ⟨h.1.ext hx, h.2⟩
theorem ResIC.within {w w' : World} {B C B1 C1 : Nat} {v : Value} {r : List Int} (h : ResIC w B C v r) (k : Within B1 C1 w w') (hC : C1 ≤ B) : ResIC w' B C v r := ⟨h.1.within k hC, h.2⟩

/-- a copied argument is a result of its own -/
theorem toRes_any (v : Value) (m : List (List Int)) (w : World) (h : ReadsRows w v m) (hl : m.length ≤ 1048576) (hs : sizeM m ≤ 1048576) :
    Calls Tryd.prog 13 #[v] w fun e w' => e = .returned (.slice (some ⟨w.heap.size, 0, none⟩) m.length m.length) ∧ ResM w' w.heap.size (.slice (some ⟨w.heap.size, 0, none⟩) m.length m.length) m ∧ Ext w w' :=
  (toIntSS_any v m w h hl hs).mono fun _ _ ⟨gs, cs, he, ht, hx⟩ => ⟨he, .inr ⟨_, _, gs, cs, rfl, ht⟩, hx⟩
theorem toResI_any (v : Value) (xs : List Int) (w : World) (h : ReadsI w v xs) (hs : xs.length ≤ 1048576) :
    Calls Tryd.prog 8 #[v] w fun e w' => e = .returned (.slice (some ⟨w.heap.size, 0, none⟩) xs.length xs.length) ∧ ResI w' w.heap.size (.slice (some ⟨w.heap.size, 0, none⟩) xs.length xs.length) xs ∧ Ext w w' := toIntS_any v xs w h hs
theorem leftM_room {m : List (List Int)} {l : Int} (hl : l ≤ 1048576) (h : 0 ≤ leftM l m) : m.length ≤ 1048576 ∧ sizeM m ≤ 1048576 := by
  have := leftM_fits h
  omega
end Go.Proofs.YtngbibaphakifaaDoor

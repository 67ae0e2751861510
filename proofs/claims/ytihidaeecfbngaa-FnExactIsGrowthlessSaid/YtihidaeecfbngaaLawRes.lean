/- Results of the program's own memory, and how the laws mark them. -/
import Derived.Test.YtihidaeecfbngaaLawMatB
namespace Go.Proofs.Ytihidaeecfbngaa
open Go.RowKit

/-- a table that the call has made, or none -/
def ResM (w : World) (B : Nat) (v : Value) (r : List (List Int)) : Prop :=
  (v = .slice none 0 0 ∧ r = []) ∨ ∃ g cap gs cs, v = .slice (some ⟨g, 0, none⟩) r.length cap ∧ MTab w B 22 3 g r.length cap gs cs r
/-- a list that the call has made, or none -/
def ResI (w : World) (B : Nat) (v : Value) (r : List Int) : Prop := Own w B 3 v (icells r)

theorem ResM.reads {w : World} {B : Nat} {v : Value} {r : List (List Int)} (h : ResM w B v r) : ReadsRows w v r := by
  rcases h with ⟨rfl, rfl⟩ | ⟨g, cap, gs, cs, rfl, ht⟩
  · exact ReadsRows.nil w _ none rfl
  · exact ht.reads rfl
theorem ResM.ext {w w' : World} {B : Nat} {v : Value} {r : List (List Int)} (h : ResM w B v r) (hx : Ext w w') : ResM w' B v r := by
  rcases h with h | ⟨g, cap, gs, cs, hv, ht⟩
  · exact .inl h
  · exact .inr ⟨g, cap, gs, cs, hv, ht.ext hx⟩
theorem ResM.mono {w : World} {B B' : Nat} {v : Value} {r : List (List Int)} (h : ResM w B v r) (hB : B' ≤ B) : ResM w B' v r := by
  rcases h with h | ⟨g, cap, gs, cs, hv, ht⟩
  · exact .inl h
  · exact .inr ⟨g, cap, gs, cs, hv, ht.mono hB⟩
theorem ResM.within {w w' : World} {B B1 C1 : Nat} {v : Value} {r : List (List Int)} (h : ResM w B v r) (k : Within B1 C1 w w') (hC : C1 ≤ B) : ResM w' B v r := by
  rcases h with h | ⟨g, cap, gs, cs, hv, ht⟩
  · exact .inl h
  · exact .inr ⟨g, cap, gs, cs, hv, ht.within k hC⟩
theorem ResI.reads {w : World} {B : Nat} {v : Value} {r : List Int} (h : ResI w B v r) : ReadsI w v r := Own.readsI h
theorem ResI.ext {w w' : World} {B : Nat} {v : Value} {r : List Int} (h : ResI w B v r) (hx : Ext w w') : ResI w' B v r := Own.ext h hx
theorem ResI.mono {w : World} {B B' : Nat} {v : Value} {r : List Int} (h : ResI w B v r) (hB : B' ≤ B) : ResI w B' v r := Own.mono h hB
theorem ResI.within {w w' : World} {B B1 C1 : Nat} {v : Value} {r : List Int} (h : ResI w B v r) (k : Within B1 C1 w w') (hC : C1 ≤ B) : ResI w' B v r := Own.within k h hC

/-- .. with a bound on its blocks -/
def ResMC (w : World) (B C : Nat) (v : Value) (r : List (List Int)) : Prop :=
  (v = .slice none 0 0 ∧ r = []) ∨ ∃ g cap gs cs, v = .slice (some ⟨g, 0, none⟩) r.length cap ∧ MTab w B 22 3 g r.length cap gs cs r ∧ ∀ i, i < r.length → gs i < C
def ResIC (w : World) (B C : Nat) (v : Value) (r : List Int) : Prop := ResI w B v r ∧ ∀ k, v.ownBlock = some k → k < C
theorem ResM.bound {w : World} {B : Nat} {v : Value} {r : List (List Int)} (h : ResM w B v r) : ResMC w B w.heap.size v r := by
  rcases h with h | ⟨g, cap, gs, cs, hv, ht⟩
  · exact .inl h
  · exact .inr ⟨g, cap, gs, cs, hv, ht, fun i hi => (ht.rowlt i hi).2⟩
theorem ResMC.res {w : World} {B C : Nat} {v : Value} {r : List (List Int)} (h : ResMC w B C v r) : ResM w B v r := by
  rcases h with h | ⟨g, cap, gs, cs, hv, ht, _⟩
  · exact .inl h
  · exact .inr ⟨g, cap, gs, cs, hv, ht⟩
theorem ResMC.reads {w : World} {B C : Nat} {v : Value} {r : List (List Int)} (h : ResMC w B C v r) : ReadsRows w v r := h.res.reads
theorem ResMC.ext {w w' : World} {B C : Nat} {v : Value} {r : List (List Int)} (h : ResMC w B C v r) (hx : Ext w w') : ResMC w' B C v r := by
  rcases h with h | ⟨g, cap, gs, cs, hv, ht, hc⟩
  · exact .inl h
  · exact .inr ⟨g, cap, gs, cs, hv, ht.ext hx, hc⟩
theorem ResMC.within {w w' : World} {B C B1 C1 : Nat} {v : Value} {r : List (List Int)} (h : ResMC w B C v r) (k : Within B1 C1 w w') (hC : C1 ≤ B) : ResMC w' B C v r := by
  rcases h with h | ⟨g, cap, gs, cs, hv, ht, hc⟩
  · exact .inl h
  · exact .inr ⟨g, cap, gs, cs, hv, ht.within k hC, hc⟩
theorem ResI.bound {w : World} {B : Nat} {v : Value} {r : List Int} (h : ResI w B v r) : ResIC w B w.heap.size v r := ⟨h, fun k hk => (World.ownsRow.lt h k hk).2⟩
theorem ResIC.reads {w : World} {B C : Nat} {v : Value} {r : List Int} (h : ResIC w B C v r) : ReadsI w v r := h.1.reads
theorem ResIC.ext {w w' : World} {B C : Nat} {v : Value} {r : List Int} (h : ResIC w B C v r) (hx : Ext w w') : ResIC w' B C v r := ⟨h.1.ext hx, h.2⟩
theorem ResIC.within {w w' : World} {B C B1 C1 : Nat} {v : Value} {r : List Int} (h : ResIC w B C v r) (k : Within B1 C1 w w') (hC : C1 ≤ B) : ResIC w' B C v r := ⟨h.1.within k hC, h.2⟩

theorem markRes_any (B C : Nat) (v : Value) (r : List (List Int)) (q : Int) (w : World) (h : ResMC w B C v r) (h0 : 0 ≤ q) (h1 : q + (sizeM r : Int) ≤ 4611686018427387904) :
    Calls Try.prog 41 #[v, .int .i64 q] w fun e w' => e = .returned (.int .i64 (q + (sizeM r : Int))) ∧ Within B C w w' ∧ ResMC w' B C v (markM q r) := by
  rcases h with ⟨rfl, rfl⟩ | ⟨g, cap, gs, cs, rfl, ht, hc⟩
  · go_enter Try.func41, Try.ntmps41
    go_wp2
    go_loop [1, 5] (fun x i => x = .int .i64 q ∧ i = .int .i64 0) (fun _ i => 0)
    case atStart => exact ⟨rfl, rfl⟩
    case round =>
      obtain ⟨rfl, rfl⟩ := hrel
      go_wp2
      go_ret
      exact ⟨ret_int (by simp [sizeM]), Within.refl _ _ _, .inl ⟨rfl, rfl⟩⟩
  · refine (markIntSS_any B g cap C gs cs r q w ht h0 h1 hc).mono fun e w' ⟨he, hw, ht'⟩ => ⟨he, hw, .inr ⟨g, cap, gs, cs, by rw [markM_length], by rw [markM_length]; exact ht', by rw [markM_length]; exact hc⟩⟩
theorem markResI_any (B C : Nat) (v : Value) (r : List Int) (q : Int) (w : World) (h : ResIC w B C v r) (h0 : 0 ≤ q) (h1 : q + (r.length : Int) ≤ 4611686018427387904) :
    Calls Try.prog 26 #[v, .int .i64 q] w fun e w' => e = .returned (.int .i64 (q + (r.length : Int))) ∧ Within B C w w' ∧ ResIC w' B C v (countL q r.length) := by
  refine (markIntS_any B v r q w h.1 h0 h1).mono fun e w' ⟨he, hg, ho⟩ => ⟨he, ?_, ho, h.2⟩
  rcases h.1.shape with ⟨rfl, _⟩ | ⟨g, cap, rfl, hb, hl, _, _⟩
  · exact ⟨hg.os, hg.tape, hg.output, hg.size, fun k hk hj => hg.block k hk (by simp [Value.ownBlock])⟩
  · exact Within.grown hg hb (h.2 g rfl)

/-- a copied argument is a result of its own -/
theorem toRes_any (v : Value) (m : List (List Int)) (w : World) (h : ReadsRows w v m) (hl : m.length ≤ 1048576) (hs : sizeM m ≤ 1048576) :
    Calls Try.prog 30 #[v] w fun e w' => e = .returned (.slice (some ⟨w.heap.size, 0, none⟩) m.length m.length) ∧ ResM w' w.heap.size (.slice (some ⟨w.heap.size, 0, none⟩) m.length m.length) m ∧ Ext w w' :=
  (toIntSS_any v m w h hl hs).mono fun _ _ ⟨gs, cs, he, ht, hx⟩ => ⟨he, .inr ⟨_, _, gs, cs, rfl, ht⟩, hx⟩
theorem toResI_any (v : Value) (xs : List Int) (w : World) (h : ReadsI w v xs) (hs : xs.length ≤ 1048576) :
    Calls Try.prog 21 #[v] w fun e w' => e = .returned (.slice (some ⟨w.heap.size, 0, none⟩) xs.length xs.length) ∧ ResI w' w.heap.size (.slice (some ⟨w.heap.size, 0, none⟩) xs.length xs.length) xs ∧ Ext w w' := toIntS_any v xs w h hs
theorem leftM_room {m : List (List Int)} {l : Int} (hl : l ≤ 1048576) (h : 0 ≤ leftM l m) : m.length ≤ 1048576 ∧ sizeM m ≤ 1048576 := by
  have := leftM_fits h
  omega
end Go.Proofs.Ytihidaeecfbngaa

/- Tables that a call itself makes: rows of one-cell elements in blocks of their own. No dump is imported. -/
import Derived.Test.YtfiembmfkokllaaGreatPkA
namespace Go
open Go.RowKit

/-- v is a row of rows: the row's cells fs, and what each of them reads as -/
structure Tab (w : World) (B : Nat) (T E : TypeId) (v : Value) (fs : List Value) (t : List (List Value)) : Prop where
  own : Own w B T v fs
  len : fs.length = t.length
  row : ∀ (i : Nat) (x : Value), fs[i]? = some x → Own w B E x (t.getD i [])
  ptr : ∀ (i : Nat) (x : Value), fs[i]? = some x → ∃ g n c, x = .slice (some ⟨g, 0, none⟩) n c
  apart : ∀ (i : Nat) (x : Value) (k : Nat), fs[i]? = some x → x.ownBlock = some k → v.ownBlock ≠ some k

theorem Tab.ext {w w' : World} {B : Nat} {T E : TypeId} {v : Value} {fs : List Value} {t : List (List Value)} (h : Tab w B T E v fs t) (hx : Ext w w') : Tab w' B T E v fs t :=
  ⟨h.own.ext hx, h.len, fun i x hi => (h.row i x hi).ext hx, h.ptr, h.apart⟩

theorem Tab.spot {w : World} {B : Nat} {T E : TypeId} {g N cap : Nat} {fs : List Value} {t : List (List Value)} (h : Tab w B T E (.slice (some ⟨g, 0, none⟩) N cap) fs t) (i : Nat) (hi : i < t.length) :
    ∃ gi ci, w.cell? ⟨g, i, none⟩ = some (.slice (some ⟨gi, 0, none⟩) (t.getD i []).length ci) ∧ Own w B E (.slice (some ⟨gi, 0, none⟩) (t.getD i []).length ci) (t.getD i []) := by
  have hif : i < fs.length := by rw [h.len]; exact hi
  have h0 := h.own.cell i hif
  have h1 := h.row i fs[i] (by simp [hif])
  obtain ⟨gi, n, c, e⟩ := h.ptr i fs[i] (by simp [hif])
  rw [e] at h0 h1
  have hn := h1.len
  subst hn
  exact ⟨gi, c, h0, h1⟩

/-- an empty table -/
theorem Tab.nil {w : World} {B : Nat} {T E : TypeId} {v : Value} (h : Own w B T v []) : Tab w B T E v [] [] :=
  ⟨h, rfl, fun i x hi => by simp at hi, fun i x hi => by simp at hi, fun i x k hi => by simp at hi⟩

/-- one row more -/
theorem Tab.push {w w' : World} {B : Nat} {T E : TypeId} {v v' x : Value} {fs : List Value} {t : List (List Value)} {r : List Value} (h : Tab w B T E v fs t) (hr : Own w B E x r) (hs : ∃ g n c, x = .slice (some ⟨g, 0, none⟩) n c) (hne : ∀ k, x.ownBlock = some k → v.ownBlock ≠ some k)
    (hown : Own w' B T v' (fs ++ [x])) (hg : w.grownBy w' v.ownBlock ∧ Moved w v v') : Tab w' B T E v' (fs ++ [x]) (t ++ [r]) := by
  have apart' : ∀ y k, (∀ k, y.ownBlock = some k → v.ownBlock ≠ some k) → (∃ f, Own w B E y f) → y.ownBlock = some k → v'.ownBlock ≠ some k := by
    intro y k hy ⟨f, hf⟩ hk
    rcases hg.2 with hm | hm
    · rw [hm]; exact hy k hk
    · intro hv'
      have h1 := hm k hv'
      have h2 := (World.ownsRow.lt hf k hk).2
      omega
  have split : ∀ i y, (fs ++ [x])[i]? = some y → (i < fs.length ∧ fs[i]? = some y) ∨ (i = fs.length ∧ y = x) := by
    intro i y hi
    by_cases hlt : i < fs.length
    · rw [List.getElem?_append_left hlt] at hi
      exact .inl ⟨hlt, hi⟩
    · rw [List.getElem?_append_right (by omega)] at hi
      have : i - fs.length = 0 := by
        have := (List.getElem?_eq_some_iff.1 hi).1
        simp at this
        omega
      rw [this] at hi
      simp at hi
      exact .inr ⟨by omega, hi.symm⟩
  have hlen := h.len
  refine ⟨hown, by simp [hlen], fun i y hi => ?_, fun i y hi => ?_, fun i y k hi hk => ?_⟩
  · rcases split i y hi with ⟨hlt, hi⟩ | ⟨rfl, rfl⟩
    · have e : (t ++ [r]).getD i [] = t.getD i [] := by
        rw [List.getD_eq_getElem?_getD, List.getD_eq_getElem?_getD, List.getElem?_append_left (by omega)]
      rw [e]
      exact GB.own hg.1 (h.row i y hi) (fun k hk => h.apart i y k hi hk)
    · have e : (t ++ [r]).getD fs.length [] = r := by
        rw [List.getD_eq_getElem?_getD, List.getElem?_append_right (by omega), hlen, Nat.sub_self]
        rfl
      rw [e]
      exact GB.own hg.1 hr hne
  · rcases split i y hi with ⟨hlt, hi⟩ | ⟨rfl, rfl⟩
    · exact h.ptr i y hi
    · exact hs
  · rcases split i y hi with ⟨hlt, hi⟩ | ⟨rfl, rfl⟩
    · exact apart' y k (fun k hk => h.apart i y k hi hk) ⟨_, h.row i y hi⟩ hk
    · exact apart' y k hne ⟨_, hr⟩ hk

/-- truth values as cells -/
def tcells (l : List Bool) : List Value := l.map Value.bool
theorem tcells_length (l : List Bool) : (tcells l).length = l.length := by simp [tcells]
theorem tcells_at (l : List Bool) (j : Nat) (h : j < l.length) : (tcells l)[j]'(by rw [tcells_length]; exact h) = .bool (l.getD j false) := by
  simp [tcells, List.getD_eq_getElem?_getD, List.getElem?_eq_getElem h]
theorem tcells_set (l : List Bool) (j : Nat) (x : Bool) : (tcells l).set j (.bool x) = tcells (l.set j x) := by simp [tcells, List.map_set]
theorem tcells_replicate (n : Nat) (x : Bool) : tcells (List.replicate n x) = List.replicate n (.bool x) := by simp [tcells]
end Go

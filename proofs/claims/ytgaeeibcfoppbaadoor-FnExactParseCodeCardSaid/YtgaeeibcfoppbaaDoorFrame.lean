/- Cells and frozen marks behind a chain of allocs. -/
import Derived.Test.YtgaeeibcfoppbaaDoorMade
namespace Go.Proofs.YtgaeeibcfoppbaaDoor
open Go.RowKit Go.Cm

theorem cell_new {w : World} {c : Array Value} {t : TypeId} {n i : Nat} {v : Value} (h : n = w.heap.size) (hv : c[i]? = some v) : (w.alloc (.cells c t)).cell? ⟨n, i, none⟩ = some v := by
  subst h
  rw [World.cell?_alloc_new, hv]

theorem cell_old {w : World} {o : Obj} {n i : Nat} {v : Value} (h : w.cell? ⟨n, i, none⟩ = some v) : (w.alloc o).cell? ⟨n, i, none⟩ = some v := by
  rw [World.cell?_alloc_lt _ _ _ (World.block_lt_of_cell? w _ h), h]

theorem frozen_new {w : World} {c : Array Value} {t : TypeId} {n i : Nat} (h : n = w.heap.size) : (w.alloc (.cells c t)).frozen? ⟨n, i, none⟩ = false := by
  subst h
  rw [World.frozen?_alloc_new]

theorem frozen_old {w : World} {o : Obj} {n i : Nat} (h : n < w.heap.size) (hf : w.frozen? ⟨n, i, none⟩ = false) : (w.alloc o).frozen? ⟨n, i, none⟩ = false := by
  rw [World.frozen?_alloc_old _ _ _ (Nat.ne_of_lt h), hf]

theorem Ext.frozen_is {w w' : World} {n i : Nat} (hx : Ext w w') (h : n < w.heap.size) (hf : w.frozen? ⟨n, i, none⟩ = false) : w'.frozen? ⟨n, i, none⟩ = false :=
  (Below.frozen (p := ⟨n, i, none⟩) hx h).trans hf

theorem Ext.frozen_cell {w w' : World} {n i : Nat} {v : Value} (hx : Ext w w') (hc : w.cell? ⟨n, i, none⟩ = some v) (hf : w.frozen? ⟨n, i, none⟩ = false) : w'.frozen? ⟨n, i, none⟩ = false :=
  Ext.frozen_is hx (World.block_lt_of_cell? w _ hc) hf

/-- A block is at hand: its cells and that they are not frozen. -/
structure Blk (w : World) (b : Nat) (c : Array Value) : Prop where
  cell : ∀ i v, c[i]? = some v → w.cell? ⟨b, i, none⟩ = some v
  frozen : ∀ i, w.frozen? ⟨b, i, none⟩ = false
  lt : b < w.heap.size

theorem Blk.mk' {w : World} {c : Array Value} {t : TypeId} {n : Nat} (h : n = w.heap.size) : Blk (w.alloc (.cells c t)) n c :=
  ⟨fun _ _ hv => cell_new h hv, fun _ => frozen_new h, by simp; omega⟩

theorem Blk.old {w : World} {o : Obj} {b : Nat} {c : Array Value} (h : Blk w b c) : Blk (w.alloc o) b c :=
  ⟨fun i v hv => cell_old (h.cell i v hv), fun i => frozen_old h.lt (h.frozen i), by have := h.lt; simp; omega⟩

theorem Blk.ext {w w' : World} {b : Nat} {c : Array Value} (h : Blk w b c) (hx : Ext w w') : Blk w' b c :=
  ⟨fun i v hv => hx.cell_some (h.cell i v hv), fun i => Ext.frozen_is hx h.lt (h.frozen i), Nat.lt_of_lt_of_le h.lt hx.size⟩

/-- Cells of a block behind a store. -/
theorem Blk.set {w : World} {b i : Nat} {c : Array Value} (h : Blk w b c) (hi : i < c.size) (v : Value) : Blk (w.setCell ⟨b, i, none⟩ v) b (c.set i v hi) := by
  refine ⟨fun j u hu => ?_, fun j => by rw [World.frozen?_setCell, h.frozen], by simpa using h.lt⟩
  by_cases e : i = j
  · subst e
    have : u = v := by simpa using hu.symm
    subst this
    exact World.cell?_setCell_same w _ _ (h.cell i c[i] (by simp [hi]))
  · rw [World.cell?_setCell_other _ _ _ _ (by intro h; injection h; contradiction)]
    exact h.cell j u (by simpa [Array.getElem?_set, e] using hu)

theorem Blk.other {w : World} {b b' i : Nat} {c : Array Value} (h : Blk w b c) (hb : b' ≠ b) (v : Value) : Blk (w.setCell ⟨b', i, none⟩ v) b c := by
  refine ⟨fun j u hu => ?_, fun j => by rw [World.frozen?_setCell, h.frozen], by simpa using h.lt⟩
  rw [World.cell?_setCell_other _ _ _ _ (by intro h; injection h; contradiction)]
  exact h.cell j u hu

theorem Blk.c3 {w : World} {b : Nat} {x y z : Value} (h : Blk w b #[x, y, z]) : w.cell? ⟨b, 0, none⟩ = some x ∧ w.cell? ⟨b, 1, none⟩ = some y ∧ w.cell? ⟨b, 2, none⟩ = some z ∧ w.frozen? ⟨b, 0, none⟩ = false ∧ w.frozen? ⟨b, 1, none⟩ = false ∧ w.frozen? ⟨b, 2, none⟩ = false :=
  ⟨h.cell 0 _ rfl, h.cell 1 _ rfl, h.cell 2 _ rfl, h.frozen 0, h.frozen 1, h.frozen 2⟩

theorem Ext.alloced {w w' : World} (h : Ext w w') (o : Obj) : Ext w (w'.alloc o) := h.trans (Ext.alloc _ _)
theorem Ext.stored {w w' : World} {a : Addr} {v : Value} (h : Ext w w') (ha : w.heap.size ≤ a.block) : Ext w (w'.setCell a v) := h.setCell ha v

theorem GB.blk {W wr : World} {row : Option Nat} {b : Nat} {c : Array Value} (h : W.grownBy wr row) (k : Blk W b c) (hne : row ≠ some b) : Blk wr b c :=
  ⟨fun i v hv => GB.cell h (k.cell i v hv) hne, fun i => (GB.frozen h (a := ⟨b, i, none⟩) k.lt hne).trans (k.frozen i), Nat.lt_of_lt_of_le k.lt h.size⟩

end Go.Proofs.YtgaeeibcfoppbaaDoor

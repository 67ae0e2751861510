/- A region that lays two results: the relation of worlds under which its orders meet. -/
import Derived.Test.YtgaeeibcfoppbaaGreatDoorDrwD
namespace Go.Proofs.YtgaeeibcfoppbaaGreatDoor
open Go.RowKit Go.Cm

/-- a block of so many cells that may be written -/
def Has (w : World) (b n : Nat) : Prop := ∃ c : Array Value, c.size = n ∧ Blk w b c
/-- the cursor and the results' blocks alone turn; a result that is laid stays -/
structure ResK (B z : Nat) (rs : List (Nat × Array Value)) (w w' : World) : Prop where
  cur : Cur B w' z
  os : w'.os = w.os
  tape : w'.tape = w.tape
  output : w'.output = w.output
  size : w.heap.size ≤ w'.heap.size
  block : ∀ k, k < w.heap.size → k ≠ z → (∀ p ∈ rs, k ≠ p.1) → w'.heap[k]? = w.heap[k]?
  has : ∀ p ∈ rs, Has w p.1 p.2.size → Has w' p.1 p.2.size
  kept : ∀ p ∈ rs, Blk w p.1 p.2 → Blk w' p.1 p.2
theorem ResK.ofDrawn {B z : Nat} {rs : List (Nat × Array Value)} {w w' : World} (h : Drawn B z w w') (hrs : ∀ p ∈ rs, p.1 ≠ z) : ResK B z rs w w' :=
  ⟨h.cur, h.grown.os, h.grown.tape, h.grown.output, h.grown.size, fun k hk hz _ => h.grown.block k hk (fun e => hz (Option.some.inj e)),
   fun p hp ⟨c, h1, h2⟩ => ⟨c, h1, h.blk h2 (hrs p hp)⟩, fun p hp h2 => h.blk h2 (hrs p hp)⟩
theorem ResK.trans {B z : Nat} {rs : List (Nat × Array Value)} {a b c : World} (h : ResK B z rs a b) (k : ResK B z rs b c) : ResK B z rs a c :=
  ⟨k.cur, k.os.trans h.os, k.tape.trans h.tape, k.output.trans h.output, Nat.le_trans h.size k.size, fun i hi h1 h2 => (k.block i (Nat.lt_of_lt_of_le hi h.size) h1 h2).trans (h.block i hi h1 h2),
   fun p hp h1 => k.has p hp (h.has p hp h1), fun p hp h1 => k.kept p hp (h.kept p hp h1)⟩
theorem ResK.start {B z : Nat} {rs : List (Nat × Array Value)} {w : World} (c : Cur B w z) : ResK B z rs w w := ⟨c, rfl, rfl, rfl, Nat.le_refl _, fun _ _ _ _ => rfl, fun _ _ h => h, fun _ _ h => h⟩
theorem ResK.cell {B z : Nat} {rs : List (Nat × Array Value)} {w w' : World} (h : ResK B z rs w w') {a : Addr} {v : Value} (hc : w.cell? a = some v) (hz : a.block ≠ z) (hr : ∀ p ∈ rs, a.block ≠ p.1) : w'.cell? a = some v :=
  (World.cell?_of_block (h.block a.block (World.block_lt_of_cell? w a hc) hz hr)).trans hc
theorem ResK.toExt {B z : Nat} {rs : List (Nat × Array Value)} {w0 w w' : World} (hx : Ext w0 w) (hz : w0.heap.size ≤ z) (hr : ∀ p ∈ rs, w0.heap.size ≤ p.1) (h : ResK B z rs w w') : Ext w0 w' :=
  ⟨h.os.trans hx.os, h.tape.trans hx.tape, h.output.trans hx.output, Nat.le_trans hx.size h.size, fun k hk => (h.block k (Nat.lt_of_lt_of_le hk hx.size) (by omega) (fun p hp => by have := hr p hp; omega)).trans (hx.block k hk)⟩
/-- one result is laid -/
theorem ResK.store {B z r : Nat} {rs : List (Nat × Array Value)} {w : World} {x y t : Value} (c : Cur B w z) (hp : (r, #[x, y, t]) ∈ rs) (hB : B ≤ r) (hz : r ≠ z) (hone : ∀ p ∈ rs, p.1 = r → p = (r, #[x, y, t])) {u0 u1 u2 : Value} (hb : Blk w r #[u0, u1, u2]) :
    ResK B z rs w (((w.setCell ⟨r, 0, none⟩ x).setCell ⟨r, 1, none⟩ y).setCell ⟨r, 2, none⟩ t) ∧ Blk (((w.setCell ⟨r, 0, none⟩ x).setCell ⟨r, 1, none⟩ y).setCell ⟨r, 2, none⟩ t) r #[x, y, t] := by
  have hnew : Blk (((w.setCell ⟨r, 0, none⟩ x).setCell ⟨r, 1, none⟩ y).setCell ⟨r, 2, none⟩ t) r #[x, y, t] := by
    have := ((hb.set (i := 0) (by simp) x).set (i := 1) (by simp) y).set (i := 2) (by simp) t
    simpa using this
  have hg : w.grownBy (((w.setCell ⟨r, 0, none⟩ x).setCell ⟨r, 1, none⟩ y).setCell ⟨r, 2, none⟩ t) (some r) :=
    grown_trans (grown_trans (grown_store w ⟨r, 0, none⟩ x) (grown_store _ ⟨r, 1, none⟩ y)) (grown_store _ ⟨r, 2, none⟩ t)
  generalize ((w.setCell ⟨r, 0, none⟩ x).setCell ⟨r, 1, none⟩ y).setCell ⟨r, 2, none⟩ t = w' at hnew hg
  refine ⟨⟨c.kept hg (fun e => hz (Option.some.inj e)) (fun k e => by cases e; exact hB), hg.os, hg.tape, hg.output, hg.size, fun k hk _ hr => hg.block k hk (fun e => hr _ hp (Option.some.inj e)), fun p hp' ⟨c', h1, h2⟩ => ?_, fun p hp' h2 => ?_⟩, hnew⟩
  · by_cases e : p.1 = r
    · have := hone p hp' e
      subst this
      exact ⟨_, rfl, hnew⟩
    · exact ⟨c', h1, GB.blk hg h2 (fun h => e (Option.some.inj h).symm)⟩
  · by_cases e : p.1 = r
    · have := hone p hp' e
      subst this
      exact hnew
    · exact GB.blk hg h2 (fun h => e (Option.some.inj h).symm)
/-- .. as a relation for a region -/
def resRel (B z : Nat) (rs : List (Nat × Array Value)) : Rel where
  r w w' := Cur B w z → ResK B z rs w w'
  refl _ c := ResK.start c
  trans h k c := (h c).trans (k (h c).cur)
  drew _ c := ⟨c.ext (Ext.drew _), rfl, rfl, rfl, Nat.le_refl _, fun _ _ _ _ => rfl, fun _ _ ⟨c', h1, h2⟩ => ⟨c', h1, h2.ext (Ext.drew _)⟩, fun _ _ h => h.ext (Ext.drew _)⟩
@[go_sem] theorem resRel_r (B z : Nat) (rs : List (Nat × Array Value)) (w w' : World) : (resRel B z rs).r w w' = (Cur B w z → ResK B z rs w w') := rfl
/-- a result is laid -/
def LaidJ (B z r : Nat) (c : Array Value) (_ : Value) (w : World) : Prop := Cur B w z ∧ Blk w r c
theorem LaidJ.ok {B z r : Nat} {rs : List (Nat × Array Value)} {c : Array Value} (hp : (r, c) ∈ rs) (v : Value) (w w' : World) (h : (resRel B z rs).r w w') (k : LaidJ B z r c v w) : LaidJ B z r c v w' := ⟨(h k.1).cur, (h k.1).kept _ hp k.2⟩
theorem Has.elim {w : World} {b : Nat} (h : Has w b 3) {C : Prop} (k : ∀ u0 u1 u2 : Value, Blk w b #[u0, u1, u2] → C) : C := by
  obtain ⟨⟨l⟩, h1, h2⟩ := h
  match l, h1 with
  | [u0, u1, u2], _ => exact k u0 u1 u2 h2
/-- some number -/
def IntJ (_ : Nat) (v : Value) (_ : World) : Prop := ∃ y : Int, v = .int .i64 y
theorem IntJ.elim {n : Nat} {v : Value} {w : World} (h : IntJ n v w) {C : Prop} (k : ∀ y : Int, v = .int .i64 y → C) : C := by
  obtain ⟨y, h⟩ := h
  exact k y h
end Go.Proofs.YtgaeeibcfoppbaaGreatDoor

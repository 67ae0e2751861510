/- Rows that a call itself makes: what they read as, a store, a make. No dump is imported. -/
import Derived.Test.YtgaeeibcfoppbaaDoorReads
import Derived.Deep.OwnRows
import Derived.Laws.IdiomStrings
import Derived.Laws.BytesArg
import Derived.Lib.Hide
namespace Go
open Go.RowKit

/-- A row of one-cell elements, made by the call. -/
def Own (w : World) (B : Nat) (E : TypeId) (v : Value) (fs : List Value) : Prop := w.ownsRow B E 1 v fs.length fs

theorem Own.nil (w : World) (B : Nat) (E : TypeId) : Own w B E (.slice none 0 0) [] := World.ownsRow_nil w B E 1

theorem Own.shape {w : World} {B : Nat} {E : TypeId} {v : Value} {fs : List Value} (h : Own w B E v fs) :
    (v = .slice none 0 0 ∧ fs = []) ∨ ∃ g cap, v = .slice (some ⟨g, 0, none⟩) fs.length cap ∧ B ≤ g ∧ g < w.heap.size ∧ fs.length ≤ cap ∧ cap ≤ maxLen := by
  rcases h.2 with ⟨hv, hn⟩ | ⟨g, cap, cur, hv, hb, hg, h1, h2, _⟩
  · exact .inl ⟨hv, List.eq_nil_of_length_eq_zero hn⟩
  · exact .inr ⟨g, cap, hv, hb, (Array.getElem?_eq_some_iff.1 hg).1, h1, h2⟩

theorem Own.cell {w : World} {B : Nat} {E : TypeId} {g n cap : Nat} {fs : List Value} (h : Own w B E (.slice (some ⟨g, 0, none⟩) n cap) fs) (j : Nat) (hj : j < fs.length) : w.cell? ⟨g, j, none⟩ = some fs[j] := by
  rcases h.shape with ⟨hv, _⟩ | ⟨g', cap', hv, _⟩
  · cases hv
  · injection hv with h1 h2 h3
    subst h2
    have := World.ownsRow.cellAt h j (by simpa using hj)
    rw [this, List.getElem?_eq_getElem hj]

theorem Own.len {w : World} {B : Nat} {E : TypeId} {a : Option Addr} {n cap : Nat} {fs : List Value} (h : Own w B E (.slice a n cap) fs) : n = fs.length := by
  rcases h.shape with ⟨hv, hf⟩ | ⟨g', cap', hv, _⟩
  · injection hv with h1 h2 h3; subst hf; exact h2
  · injection hv

theorem Own.frozen {w : World} {B : Nat} {E : TypeId} {g n cap : Nat} {fs : List Value} (h : Own w B E (.slice (some ⟨g, 0, none⟩) n cap) fs) (j : Nat) : w.frozen? ⟨g, j, none⟩ = false := by
  have hn := h.len
  subst hn
  exact World.ownsRow.frozenAt h j

theorem Own.reads {w : World} {B : Nat} {E : TypeId} {v : Value} {fs : List Value} (h : Own w B E v fs) : Reads w v fs := by
  rcases h.shape with ⟨hv, hf⟩ | ⟨g, cap, hv, _, _, h1, h2⟩
  · subst hv; subst hf
    exact ⟨none, 0, rfl, by simp, by simp [maxLen], fun i hi => by simp at hi⟩
  · subst hv
    exact ⟨_, cap, rfl, h1, h2, fun i hi => ⟨g, 0, rfl, by rw [Nat.zero_add]; exact h.cell i hi⟩⟩

theorem Own.ext {w w' : World} {B : Nat} {E : TypeId} {v : Value} {fs : List Value} (h : Own w B E v fs) (hx : Ext w w') : Own w' B E v fs := by
  refine ⟨h.1, ?_⟩
  rcases h.2 with hn | ⟨g, cap, cur, hv, hb, hg, rest⟩
  · exact .inl hn
  · exact .inr ⟨g, cap, cur, hv, hb, by rw [Below.block hx g (Array.getElem?_eq_some_iff.1 hg).1]; exact hg, rest⟩

/-- A store into the row. -/
theorem Own.store {w : World} {B : Nat} {E : TypeId} {g n cap : Nat} {fs : List Value} (h : Own w B E (.slice (some ⟨g, 0, none⟩) n cap) fs) (j : Nat) (u : Value) : Own (w.setCell ⟨g, j, none⟩ u) B E (.slice (some ⟨g, 0, none⟩) n cap) (fs.set j u) := by
  have hn := h.len
  subst hn
  have := (World.ownsRow.stored h j u).1
  unfold Own
  rw [List.length_set]
  exact this

/-- .. and nothing that was there before has turned. -/
theorem Ext.setCell {a w : World} (h : Ext a w) {p : Addr} (hp : a.heap.size ≤ p.block) (u : Value) : Ext a (w.setCell p u) := Below.setCell h hp u

theorem Ext.size {a w : World} (h : Ext a w) : a.heap.size ≤ w.heap.size := Below.size h

theorem Ext.grown {a w w' : World} {row : Option Nat} (h : Ext a w) (hg : w.grownBy w' row) (hr : ∀ k, row = some k → a.heap.size ≤ k) : Ext a w' := Below.grown h hg (Ext.size h) hr

/-- Lowering the base. -/
theorem Own.mono {w : World} {B B' : Nat} {E : TypeId} {v : Value} {fs : List Value} (h : Own w B E v fs) (hB : B' ≤ B) : Own w B' E v fs := by
  refine ⟨h.1, ?_⟩
  rcases h.2 with hn | ⟨g, cap, cur, hv, hb, rest⟩
  · exact .inl hn
  · exact .inr ⟨g, cap, cur, hv, by omega, rest⟩

/-- A row that make has just laid. -/
theorem Own.made (w : World) (E : TypeId) (z : Value) (n : Nat) (hn : n ≤ maxLen) : Own (w.alloc (.cells (madeCells #[z] n) E)) w.heap.size E (.slice (some ⟨w.heap.size, 0, none⟩) n n) (List.replicate n z) := by
  have := World.ownsRow_lit (base := w.heap.size) (e := E) (size := 1) w (madeCells #[z] n) n (Nat.le_refl _) hn (by simp [madeCells])
  rw [toList_madeCells_one] at this
  unfold Own
  rw [List.length_replicate]
  exact this

/-- A row written out. -/
theorem Own.lit (w : World) (E : TypeId) (cs : List Value) (hn : cs.length ≤ maxLen) : Own (w.alloc (.cells cs.toArray E)) w.heap.size E (.slice (some ⟨w.heap.size, 0, none⟩) cs.length cs.length) cs := by
  have := World.ownsRow_lit (base := w.heap.size) (e := E) (size := 1) w cs.toArray cs.length (Nat.le_refl _) hn (by simp)
  exact this

/-- bytes as cells -/
def bcells (l : List UInt8) : List Value := l.map fun b => .int .u8 (b.toNat : Int)

/-- 'string(b)' of a row of bytes -/
theorem run_convert_own {P : Program} {w : World} {B : Nat} {E src dst : TypeId} {v : Value} {l : List UInt8} (hs : P.underlying src = some (.slice E)) (he : P.underlying E = some (.int .u8)) (hd : P.underlying dst = some .string)
    (h : Own w B E v (bcells l)) : (convert src dst v).run P w = .ok (.string ⟨l.toArray⟩) w := by
  rcases h.shape with ⟨hv, hf⟩ | ⟨g, cap, hv, _⟩
  · subst hv
    have : l = [] := by simpa [bcells] using hf
    subst this
    exact run_convert_bytes_nil w src E hs he 0 0 dst hd
  · subst hv
    have hl : (bcells l).length = l.length := by simp [bcells]
    rw [hl]
    refine run_convert_bytes_back w src dst E ⟨g, 0, none⟩ cap l hs he hd fun j hj => ?_
    have := h.cell j (by rw [hl]; exact hj)
    rw [show (⟨g, 0, none⟩ : Addr).add j = ⟨g, j, none⟩ by unfold Addr.add; split <;> simp_all]
    simpa [bcells] using this

/-- Where a row lies behind an append: where it lay, or in a new block. -/
def Moved (w : World) (v v' : Value) : Prop := v'.ownBlock = v.ownBlock ∨ ∀ k, v'.ownBlock = some k → w.heap.size ≤ k

theorem run_append_one {P : Program} {w : World} (t ty E : TypeId) (z : Value) (bytes : Nat) (ht : P.underlying t = some (.slice E)) (hinfo : (P.info? E).map (fun i => (i.zero, i.size, i.bytes)) = some (some z, 1, bytes)) (hz1 : z.cells = #[z])
    (B : Nat) (v : Value) (fs : List Value) (hown : Own w B E v fs) (ad : Addr) (c : Nat) (u : Value) (hu : w.cell? ad = some u) (h1 : u.oneCell' = true)
    (hlen : fs.length + 1 ≤ maxLen) (hbytes : (fs.length + 1) * bytes ≤ 140737488355328) (hbase : B ≤ w.heap.size) :
    ∃ v' w', (Builtin.append_ #[t, t] ty #[v, .slice (some ad) 1 c]).run P w = .ok v' w' ∧ Own w' B E v' (fs ++ [u]) ∧ w.grownBy w' v.ownBlock ∧ Moved w v v' := by
  obtain ⟨i, hi, hzz⟩ := Option.map_eq_some_iff.1 hinfo
  simp only [Prod.mk.injEq] at hzz
  obtain ⟨hz, hsz, hb⟩ := hzz
  have hnews : ∀ (j : Nat) (u' : Value), [u][j]? = some u' → w.cell? (ad.add j) = some u' := by
    intro j u' hj
    match j, hj with
    | 0, hj => simp at hj; subst hj; simpa [Addr.add] using hu
  have hlen63 : fs.length + 1 ≤ 9223372036854775807 := by simp only [maxLen] at hlen; omega
  -- a new block
  have fresh : ∀ old, (w.drew.alloc (.cells (fs.toArray ++ [u].toArray ++ Builtin.zeroCells z.cells (grownCap w (fs.length + 1) old E - (fs.length + 1))) E)).ownsRow B E 1 (.slice (some ⟨w.heap.size, 0, none⟩) (fs.length + 1) (grownCap w (fs.length + 1) old E)) (fs.length + 1) (fs ++ [u]) := by
    intro old
    have hge := grownCap_ge w (fs.length + 1) old E
    refine ⟨by simp, .inr ⟨w.heap.size, _, _, rfl, hbase, heap_alloc_new w.drew _, hge, grownCap_le_maxLen w (fs.length + 1) old E hlen, ?_, ?_⟩⟩
    · simp only [Array.size_append, List.size_toArray, size_zeroCells, hz1, List.length_cons, List.length_nil]
      show fs.length + 1 + (grownCap w (fs.length + 1) old E - (fs.length + 1)) * 1 = _
      omega
    · simp only [Array.toList_append, Nat.mul_one]
      rw [show fs.length + 1 = (fs ++ [u]).length by simp]
      exact List.take_left
  have fgrown : ∀ (old : Nat) (row : Option Nat), w.grownBy (w.drew.alloc (.cells (fs.toArray ++ [u].toArray ++ Builtin.zeroCells z.cells (grownCap w (fs.length + 1) old E - (fs.length + 1))) E)) row :=
    fun old row => ⟨rfl, rfl, rfl, by simp, fun k hk _ => Below.heap_alloc w.drew _ k hk⟩
  rcases hown.2 with ⟨hv, hn⟩ | ⟨g, cap, cur, hv, hbg, hg, hnc, hcm, hcs, htake⟩
  · have hf : fs = [] := List.eq_nil_of_length_eq_zero hn
    subst hf; subst hv
    have hr := run_append_nil (P := P) w t ty E i z ht hi hz ad 1 c [u] (by simp [hsz]) hnews (by omega) (by omega) (by rw [hb]; simp only [List.length_nil, Nat.zero_add] at hbytes; omega)
    have h2 := fresh 0
    have h3 := fgrown 0 (Value.ownBlock (.slice none 0 0))
    simp only [List.length_nil, Nat.zero_add, List.nil_append, Array.empty_append] at h2 h3
    exact ⟨_, _, hr, h2, h3, .inr fun k hk => by simp [Value.ownBlock] at hk; omega⟩
  · subst hv
    by_cases hroom : fs.length + 1 ≤ cap
    · have hr := run_append_room (P := P) w t ty E i ht hi g fs.length cap cur hg ad 1 c [u] (by simp [hsz]) hnews (by intro u' hu'; simp at hu'; subst hu'; exact h1) hroom (by rw [hsz, hcs]; simp; omega)
      rw [hsz] at hr
      refine ⟨_, _, hr, ?_, ⟨rfl, rfl, rfl, by simp, fun k _ hk => setRow_other w g k _ (fun e => hk (by simp [Value.ownBlock, e]))⟩, .inl rfl⟩
      unfold Own
      rw [List.length_append]
      refine ⟨by simp, .inr ⟨g, cap, _, rfl, hbg, setRow_heap w g cur _ E _ hg, hroom, hcm, ?_, ?_⟩⟩
      · simp only [List.size_toArray, List.length_append, List.length_take, List.length_drop, Array.length_toList, List.length_singleton]
        omega
      · rw [htake]
        show List.take ((fs.length + 1) * 1) (fs ++ [u] ++ _) = _
        rw [show (fs.length + 1) * 1 = (fs ++ [u]).length by simp]
        exact List.take_left
    · have holds : ∀ (j : Nat) (u' : Value), fs[j]? = some u' → w.cell? ((⟨g, 0, none⟩ : Addr).add j) = some u' := hown.cells (g := g) rfl
      have hr := run_append_grow (P := P) w t ty E i z ht hi hz ⟨g, 0, none⟩ fs.length cap fs (by simp [hsz]) holds ad 1 c [u] (by simp [hsz]) hnews (by omega) (by omega) (by rw [hb]; exact growslice_fits (by omega) hbytes)
      refine ⟨_, _, hr, ?_, fgrown cap _, .inr fun k hk => by simp [Value.ownBlock] at hk; omega⟩
      unfold Own
      rw [List.length_append]
      exact fresh cap

/-- 'out = append(out, x)' of one element on a row of the call's own: x stands in a new cell. -/
theorem wpList_append_one {P : Program} {w : World} {ops : Array Oper} {rest : List Oper} {o : Oper} {a : Act} {Q : Exit → Act → World → Prop} (hgd : o.guard = none) (s x : Operand) (t : TypeId)
    (ho : o.op = .call { callee := .builtin .append, args := #[s, x], argTypes := #[t, t] })
    (E : TypeId) (z : Value) (bytes : Nat) (ht : P.underlying t = some (.slice E)) (hinfo : (P.info? E).map (fun i => (i.zero, i.size, i.bytes)) = some (some z, 1, bytes)) (hz1 : z.cells = #[z])
    (B : Nat) (v : Value) (fs : List Value) (hs : a.eval s = v) (hown : Own w B E v fs)
    (g : Nat) (u : Value) (hx : a.eval x = .slice (some ⟨g, 0, none⟩) 1 1) (hu : w.cell? ⟨g, 0, none⟩ = some u) (h1 : u.oneCell' = true)
    (hlen : fs.length + 1 ≤ maxLen) (hbytes : (fs.length + 1) * bytes ≤ 140737488355328)
    (W0 : World) (hB : W0.heap.size = B) (hext : Ext W0 w)
    (h : ∀ v' w', Own w' B E v' (fs ++ [u]) → Ext W0 w' → w.grownBy w' v.ownBlock ∧ Moved w v v' → wpList P ops Q rest (a.put o.dst v') w') : wpList P ops Q (o :: rest) a w := by
  obtain ⟨v', w', hr, h2, h3, h4⟩ := run_append_one (P := P) t o.type E z bytes ht hinfo hz1 B v fs hown ⟨g, 0, none⟩ 1 u hu h1 hlen hbytes (by rw [← hB]; exact hext.size)
  refine wpList_plain hgd fun K hK' => ?_
  unfold Oper.wp execOp
  simp only [ho, resolve, invoke, builtin, Sem.run_bind, Sem.run_pure, Result.andThen_ok, List.map_toArray, List.map_cons, List.map_nil, hs, hx, hr]
  refine hK' _ _ (h v' w' h2 (hext.grown h3 fun k hk => ?_) ⟨h3, h4⟩)
  have := (World.ownsRow.lt hown k hk).1
  omega

/-- Since the world W, in which the row was v0, memory has grown, and of what was there the row v0 alone was written. -/
structure Grew (W : World) (v0 : Value) (wr : World) (v : Value) : Prop where
  grown : W.grownBy wr v0.ownBlock
  blk : v.ownBlock = v0.ownBlock ∨ ∀ k, v.ownBlock = some k → W.heap.size ≤ k

theorem Grew.refl (W : World) (v : Value) : Grew W v W v := ⟨⟨rfl, rfl, rfl, Nat.le_refl _, fun _ _ _ => rfl⟩, .inl rfl⟩
theorem Grew.ext {W : World} {v0 : Value} {wr w' : World} {v : Value} (h : Grew W v0 wr v) (hx : Ext wr w') : Grew W v0 w' v :=
  ⟨⟨(Below.os hx).trans h.grown.os, (Below.tape hx).trans h.grown.tape, (Below.output hx).trans h.grown.output, Nat.le_trans h.grown.size hx.size, fun k hk hne => by
    rw [Below.block hx k (Nat.lt_of_lt_of_le hk h.grown.size)]
    exact h.grown.block k hk hne⟩, h.blk⟩
theorem Grew.step {W : World} {v0 : Value} {wr w' : World} {v v' : Value} (h : Grew W v0 wr v) (hg : wr.grownBy w' v.ownBlock ∧ Moved wr v v') : Grew W v0 w' v' := by
  obtain ⟨hg, hm⟩ := hg
  refine ⟨⟨hg.os.trans h.grown.os, hg.tape.trans h.grown.tape, hg.output.trans h.grown.output, Nat.le_trans h.grown.size hg.size, fun k hk hne => ?_⟩, ?_⟩
  · rw [hg.block k (Nat.lt_of_lt_of_le hk h.grown.size) ?_]
    · exact h.grown.block k hk hne
    · rcases h.blk with hb | hb
      · rw [hb]; exact hne
      · intro e
        have := hb k e.symm
        omega
  · rcases hm with hm | hm
    · rw [hm]; exact h.blk
    · exact .inr fun k hk => Nat.le_trans h.grown.size (hm k hk)
theorem Grew.cell {W : World} {v0 : Value} {wr : World} {v : Value} (h : Grew W v0 wr v) {a : Addr} {u : Value} (hc : W.cell? a = some u) (hne : v0.ownBlock ≠ some a.block) : wr.cell? a = some u :=
  (World.cell?_of_block (h.grown.block a.block (World.block_lt_of_cell? W a hc) (Ne.symm hne))).trans hc
theorem Grew.frozen {W : World} {v0 : Value} {wr : World} {v : Value} (h : Grew W v0 wr v) {a : Addr} (hb : a.block < W.heap.size) (hne : v0.ownBlock ≠ some a.block) : wr.frozen? a = W.frozen? a :=
  World.frozen?_of_block (h.grown.block a.block hb (Ne.symm hne))
theorem Grew.own {W : World} {v0 : Value} {wr : World} {v : Value} (h : Grew W v0 wr v) {B : Nat} {E : TypeId} {u : Value} {fs : List Value} (ho : Own W B E u fs) (hne : ∀ k, u.ownBlock = some k → v0.ownBlock ≠ some k) : Own wr B E u fs := by
  refine World.ownsRow.kept ho h.grown ?_
  cases hu : u.ownBlock with
  | none => exact .inl rfl
  | some k => exact .inr fun e => hne k hu e.symm
theorem Grew.reads {W : World} {v0 : Value} {wr : World} {v : Value} (h : Grew W v0 wr v) {u : Value} {fs : List Value} (ho : Reads W u fs) (hne : ∀ k, u.ownBlock = some k → v0.ownBlock ≠ some k) : Reads wr u fs := by
  obtain ⟨a, cap, hv, h1, h2, h3⟩ := ho
  refine ⟨a, cap, hv, h1, h2, fun i hi => ?_⟩
  obtain ⟨b, o, ha, hc⟩ := h3 i hi
  exact ⟨b, o, ha, h.cell hc (hne b (by rw [hv, ha]; rfl))⟩

/-! ### One block alone is written -/
theorem GB.refl (W : World) (row : Option Nat) : W.grownBy W row := ⟨rfl, rfl, rfl, Nat.le_refl _, fun _ _ _ => rfl⟩
theorem GB.ext {W wr w' : World} {row : Option Nat} (h : W.grownBy wr row) (hx : Ext wr w') : W.grownBy w' row :=
  ⟨(Below.os hx).trans h.os, (Below.tape hx).trans h.tape, (Below.output hx).trans h.output, Nat.le_trans h.size hx.size, fun k hk hne => by
    rw [Below.block hx k (Nat.lt_of_lt_of_le hk h.size)]
    exact h.block k hk hne⟩
theorem GB.setCell {W wr : World} {b : Nat} (h : W.grownBy wr (some b)) (o : Nat) (u : Value) : W.grownBy (wr.setCell ⟨b, o, none⟩ u) (some b) :=
  ⟨h.os, h.tape, h.output, by simpa [World.setCell] using h.size, fun k hk hne => by
    rw [Below.heap_setCell _ _ _ _ (fun e => hne (by rw [e]))]
    exact h.block k hk hne⟩
theorem GB.cell {W wr : World} {row : Option Nat} (h : W.grownBy wr row) {a : Addr} {u : Value} (hc : W.cell? a = some u) (hne : row ≠ some a.block) : wr.cell? a = some u :=
  (World.cell?_of_block (h.block a.block (World.block_lt_of_cell? W a hc) (Ne.symm hne))).trans hc
theorem GB.frozen {W wr : World} {row : Option Nat} (h : W.grownBy wr row) {a : Addr} (hb : a.block < W.heap.size) (hne : row ≠ some a.block) : wr.frozen? a = W.frozen? a :=
  World.frozen?_of_block (h.block a.block hb (Ne.symm hne))
theorem GB.own {W wr : World} {row : Option Nat} (h : W.grownBy wr row) {B : Nat} {E : TypeId} {u : Value} {fs : List Value} (ho : Own W B E u fs) (hne : ∀ k, u.ownBlock = some k → row ≠ some k) : Own wr B E u fs := by
  refine World.ownsRow.kept ho h ?_
  cases hu : u.ownBlock with
  | none => exact .inl rfl
  | some k => exact .inr fun e => hne k hu e.symm
end Go

/- Tables of numbers that a call itself makes, each row in a block of its own; what may be written. No dump is imported. -/
import Derived.Test.YtngbibaphakifaaDoorOwn
namespace Go
open Go.RowKit

/-- numbers as cells -/
def icells (xs : List Int) : List Value := xs.map (.int .i64)
theorem icells_length (xs : List Int) : (icells xs).length = xs.length := by simp [icells]
theorem icells_at (xs : List Int) (j : Nat) (h : j < xs.length) : (icells xs)[j]'(by rw [icells_length]; exact h) = .int .i64 (xs.getD j 0) := by
  simp [icells, List.getD_eq_getElem?_getD, List.getElem?_eq_getElem h]
theorem icells_set (xs : List Int) (j : Nat) (x : Int) : (icells xs).set j (.int .i64 x) = icells (xs.set j x) := by simp [icells, List.map_set]
theorem icells_replicate (n : Nat) (x : Int) : icells (List.replicate n x) = List.replicate n (.int .i64 x) := by simp [icells]
theorem icells_snoc (xs : List Int) (x : Int) : icells xs ++ [.int .i64 x] = icells (xs ++ [x]) := by simp [icells]

theorem Own.int_at {w : World} {B : Nat} {E : TypeId} {g n cap : Nat} {xs : List Int} (h : Own w B E (.slice (some ⟨g, 0, none⟩) n cap) (icells xs)) (j : Nat) (hj : j < xs.length) : w.cell? ⟨g, j, none⟩ = some (.int .i64 (xs.getD j 0)) := by
  have := h.cell j (by rw [icells_length]; exact hj)
  rw [icells_at _ _ hj] at this
  exact this
theorem Own.int_len {w : World} {B : Nat} {E : TypeId} {a : Option Addr} {n cap : Nat} {xs : List Int} (h : Own w B E (.slice a n cap) (icells xs)) : n = xs.length := by
  have := h.len
  rwa [icells_length] at this
theorem Own.readsI {w : World} {B : Nat} {E : TypeId} {v : Value} {xs : List Int} (h : Own w B E v (icells xs)) : ReadsI w v xs := h.reads
theorem Own.lt {w : World} {B : Nat} {E : TypeId} {g n cap : Nat} {fs : List Value} (h : Own w B E (.slice (some ⟨g, 0, none⟩) n cap) fs) : B ≤ g ∧ g < w.heap.size := World.ownsRow.lt h g rfl
theorem Own.caps {w : World} {B : Nat} {E : TypeId} {g n cap : Nat} {fs : List Value} (h : Own w B E (.slice (some ⟨g, 0, none⟩) n cap) fs) : n ≤ cap ∧ cap ≤ maxLen := by
  have hn := h.len
  rcases h.shape with ⟨hv, _⟩ | ⟨g', cap', hv, _, _, h1, h2⟩
  · cases hv
  · injection hv with e1 e2 e3
    omega

theorem ReadsI.at {w : World} {a : Option Addr} {n c : Nat} {xs : List Int} (h : ReadsI w (.slice a n c) xs) (j : Nat) (hj : j < xs.length) :
    ∃ b o, a = some ⟨b, o, none⟩ ∧ w.cell? ⟨b, o + j, none⟩ = some (.int .i64 (xs.getD j 0)) := by
  obtain ⟨a', cap, hv, h1, h2, h3⟩ := h
  injection hv with e1 e2 e3
  obtain ⟨b, o, ha, hc⟩ := h3 j (by simpa using hj)
  exact ⟨b, o, e1.trans ha, by rw [hc]; simp [List.getD_eq_getElem?_getD, List.getElem?_eq_getElem hj]⟩
theorem ReadsI.len {w : World} {a : Option Addr} {n c : Nat} {xs : List Int} (h : ReadsI w (.slice a n c) xs) : n = xs.length ∧ n ≤ c ∧ c ≤ 9223372036854775807 := by
  obtain ⟨a', cap, hv, h1, h2, h3⟩ := h
  injection hv with e1 e2 e3
  unfold maxLen at h2
  simp at h1 e2
  omega
theorem ReadsI.slice {w : World} {v : Value} {xs : List Int} (h : ReadsI w v xs) : ∃ a c, v = .slice a xs.length c := by
  obtain ⟨a', cap, hv, _⟩ := h
  exact ⟨a', cap, by simpa using hv⟩
theorem ReadsRows.at {w : World} {a : Option Addr} {n c : Nat} {m : List (List Int)} (h : ReadsRows w (.slice a n c) m) (i : Nat) (hi : i < m.length) :
    ∃ b o a' c', a = some ⟨b, o, none⟩ ∧ w.cell? ⟨b, o + i, none⟩ = some (.slice a' (m.getD i []).length c') ∧ ReadsI w (.slice a' (m.getD i []).length c') (m.getD i []) := by
  obtain ⟨vs, hl, ⟨a1, cap, hv, h1, h2, h3⟩, h4⟩ := h
  injection hv with e1 e2 e3
  obtain ⟨u, hu, hr⟩ := h4 i hi
  have e : m[i] = m.getD i [] := by simp [List.getD_eq_getElem?_getD, List.getElem?_eq_getElem hi]
  rw [e] at hr
  obtain ⟨a', c', rfl⟩ := hr.slice
  obtain ⟨b, o, ha, hc⟩ := h3 i (by omega)
  have : vs[i]'(by omega) = .slice a' (m.getD i []).length c' := by
    rw [List.getElem?_eq_getElem (by omega)] at hu
    exact Option.some.inj hu
  rw [this] at hc
  exact ⟨b, o, a', c', e1.trans ha, hc, hr⟩
theorem ReadsRows.len {w : World} {a : Option Addr} {n c : Nat} {m : List (List Int)} (h : ReadsRows w (.slice a n c) m) : n = m.length ∧ n ≤ c ∧ c ≤ 9223372036854775807 := by
  obtain ⟨vs, hl, ⟨a1, cap, hv, h1, h2, h3⟩, h4⟩ := h
  injection hv with e1 e2 e3
  unfold maxLen at h2
  omega
theorem ReadsRows.slice {w : World} {v : Value} {m : List (List Int)} (h : ReadsRows w v m) : ∃ a c, v = .slice a m.length c := by
  obtain ⟨vs, hl, ⟨a1, cap, hv, _⟩, _⟩ := h
  exact ⟨a1, cap, by rw [hv, hl]⟩
theorem ReadsRows.nil (w : World) (v : Value) (a : Option Addr) (hv : v = .slice a 0 0) : ReadsRows w v [] :=
  ⟨[], rfl, ⟨a, 0, hv, Nat.le_refl _, Nat.zero_le _, fun i hi => by simp at hi⟩, fun i hi => by simp at hi⟩
theorem ReadsI.nil (w : World) (a : Option Addr) : ReadsI w (.slice a 0 0) [] := ⟨a, 0, rfl, Nat.le_refl _, Nat.zero_le _, fun i hi => by simp at hi⟩

/-! ### What may be written: the blocks from B up to C -/
structure Within (B C : Nat) (w w' : World) : Prop where
  os : w'.os = w.os
  tape : w'.tape = w.tape
  output : w'.output = w.output
  size : w.heap.size ≤ w'.heap.size
  block : ∀ k, k < w.heap.size → (k < B ∨ C ≤ k) → w'.heap[k]? = w.heap[k]?

theorem Within.refl (B C : Nat) (w : World) : Within B C w w := ⟨rfl, rfl, rfl, Nat.le_refl _, fun _ _ _ => rfl⟩
theorem Within.trans {B C : Nat} {a b c : World} (h : Within B C a b) (k : Within B C b c) : Within B C a c :=
  ⟨k.os.trans h.os, k.tape.trans h.tape, k.output.trans h.output, Nat.le_trans h.size k.size, fun i hi hj => (k.block i (Nat.lt_of_lt_of_le hi h.size) hj).trans (h.block i hi hj)⟩
theorem Within.grown {B C : Nat} {w w' : World} {b : Nat} (hg : w.grownBy w' (some b)) (h1 : B ≤ b) (h2 : b < C) : Within B C w w' :=
  ⟨hg.os, hg.tape, hg.output, hg.size, fun k hk hj => hg.block k hk (by intro e; injection e with e; omega)⟩
theorem Within.mono {B C B' C' : Nat} {w w' : World} (h : Within B C w w') (hB : B' ≤ B) (hC : C ≤ C') : Within B' C' w w' :=
  ⟨h.os, h.tape, h.output, h.size, fun k hk hj => h.block k hk (by omega)⟩
theorem Ext.within {B C : Nat} {a w w' : World} (h : Ext a w) (k : Within B C w w') (hB : a.heap.size ≤ B) : Ext a w' :=
  Below.trans h ⟨k.os, k.tape, k.output, k.size, fun i hi => k.block i (Nat.lt_of_lt_of_le hi h.size) (by omega)⟩
theorem Own.within {B C : Nat} {w w' : World} (k : Within B C w w') {B' : Nat} {E : TypeId} {v : Value} {fs : List Value} (h : Own w B' E v fs) (hC : C ≤ B') : Own w' B' E v fs := by
  refine ⟨h.1, ?_⟩
  rcases h.2 with hn | ⟨g, cap, cur, hv, hb, hg, rest⟩
  · exact .inl hn
  · exact .inr ⟨g, cap, cur, hv, hb, by rw [k.block g (Array.getElem?_eq_some_iff.1 hg).1 (.inr (by omega))]; exact hg, rest⟩
theorem GB.alloc {W wr : World} {row : Option Nat} (h : W.grownBy wr row) (o : Obj) : W.grownBy (wr.alloc o) row := GB.ext h (Ext.alloc _ _)
theorem GB.trans {a b c : World} {row : Option Nat} (h : a.grownBy b row) (k : b.grownBy c row) : a.grownBy c row :=
  ⟨k.os.trans h.os, k.tape.trans h.tape, k.output.trans h.output, Nat.le_trans h.size k.size, fun i hi hj => (k.block i (Nat.lt_of_lt_of_le hi h.size) hj).trans (h.block i hi hj)⟩

/-! ### A table -/
/-- the first rows of a table of n: row i lies in block gs i, with room cs i -/
structure MTab (w : World) (B : Nat) (T E : TypeId) (g n cap : Nat) (gs cs : Nat → Nat) (m : List (List Int)) : Prop where
  own : ∃ fs, Own w B T (.slice (some ⟨g, 0, none⟩) n cap) fs ∧ ∀ i, i < m.length → fs[i]? = some (.slice (some ⟨gs i, 0, none⟩) (m.getD i []).length (cs i))
  row : ∀ i, i < m.length → Own w B E (.slice (some ⟨gs i, 0, none⟩) (m.getD i []).length (cs i)) (icells (m.getD i []))
  out : ∀ i, i < m.length → gs i ≠ g
  inj : ∀ i j, i < j → j < m.length → gs i ≠ gs j

section
variable {w w' : World} {B : Nat} {T E : TypeId} {g n cap : Nat} {gs cs : Nat → Nat} {m : List (List Int)}

theorem MTab.le (h : MTab w B T E g n cap gs cs m) : m.length ≤ n := by
  obtain ⟨fs, ho, hf⟩ := h.own
  have := ho.len
  rcases Nat.eq_zero_or_pos m.length with h0 | h0
  · omega
  · have := (List.getElem?_eq_some_iff.1 (hf (m.length - 1) (by omega))).1
    omega
theorem MTab.spot (h : MTab w B T E g n cap gs cs m) (i : Nat) (hi : i < m.length) : w.cell? ⟨g, i, none⟩ = some (.slice (some ⟨gs i, 0, none⟩) (m.getD i []).length (cs i)) := by
  obtain ⟨fs, ho, hf⟩ := h.own
  have h1 := hf i hi
  have hl := (List.getElem?_eq_some_iff.1 h1).1
  rw [ho.cell i hl, ← h1, List.getElem?_eq_getElem hl]
theorem MTab.at (h : MTab w B T E g n cap gs cs m) (i j : Nat) (hi : i < m.length) (hj : j < (m.getD i []).length) : w.cell? ⟨gs i, j, none⟩ = some (.int .i64 ((m.getD i []).getD j 0)) := (h.row i hi).int_at j hj
theorem MTab.frozen (h : MTab w B T E g n cap gs cs m) (i j : Nat) (hi : i < m.length) : w.frozen? ⟨gs i, j, none⟩ = false := (h.row i hi).frozen j
theorem MTab.lt (h : MTab w B T E g n cap gs cs m) : B ≤ g ∧ g < w.heap.size := by obtain ⟨fs, ho, _⟩ := h.own; exact ho.lt
theorem MTab.rowlt (h : MTab w B T E g n cap gs cs m) (i : Nat) (hi : i < m.length) : B ≤ gs i ∧ gs i < w.heap.size := (h.row i hi).lt
theorem MTab.caps (h : MTab w B T E g n cap gs cs m) : n ≤ cap ∧ cap ≤ maxLen := by obtain ⟨fs, ho, _⟩ := h.own; exact ho.caps
theorem MTab.ext (h : MTab w B T E g n cap gs cs m) (hx : Ext w w') : MTab w' B T E g n cap gs cs m := by
  obtain ⟨fs, ho, hf⟩ := h.own
  exact ⟨⟨fs, ho.ext hx, hf⟩, fun i hi => (h.row i hi).ext hx, h.out, h.inj⟩
theorem MTab.mono {B' : Nat} (h : MTab w B T E g n cap gs cs m) (hB : B' ≤ B) : MTab w B' T E g n cap gs cs m := by
  obtain ⟨fs, ho, hf⟩ := h.own
  exact ⟨⟨fs, ho.mono hB, hf⟩, fun i hi => (h.row i hi).mono hB, h.out, h.inj⟩
theorem MTab.within {B1 C1 : Nat} (h : MTab w B T E g n cap gs cs m) (k : Within B1 C1 w w') (hC : C1 ≤ B) : MTab w' B T E g n cap gs cs m := by
  obtain ⟨fs, ho, hf⟩ := h.own
  exact ⟨⟨fs, ho.within k hC, hf⟩, fun i hi => (h.row i hi).within k hC, h.out, h.inj⟩
/-- another block is written -/
theorem MTab.gb {row : Option Nat} (h : MTab w B T E g n cap gs cs m) (hg : w.grownBy w' row) (h1 : row ≠ some g) (h2 : ∀ i, i < m.length → row ≠ some (gs i)) : MTab w' B T E g n cap gs cs m := by
  obtain ⟨fs, ho, hf⟩ := h.own
  exact ⟨⟨fs, GB.own hg ho (by intro k hk; simp [Value.ownBlock] at hk; subst hk; exact h1), hf⟩, fun i hi => GB.own hg (h.row i hi) (by intro k hk; simp [Value.ownBlock] at hk; subst hk; exact h2 i hi), h.out, h.inj⟩

theorem MTab.reads (h : MTab w B T E g n cap gs cs m) (hn : n = m.length) : ReadsRows w (.slice (some ⟨g, 0, none⟩) n cap) m := by
  obtain ⟨fs, ho, hf⟩ := h.own
  have hl := ho.len
  refine ⟨fs, by omega, ?_, fun i hi => ⟨_, hf i hi, ?_⟩⟩
  · have := ho.reads
    exact this
  · have e : m[i] = m.getD i [] := by simp [List.getD_eq_getElem?_getD, List.getElem?_eq_getElem hi]
    rw [e]
    exact (h.row i hi).readsI

/-- a row is another one of its length -/
theorem MTab.turn (h : MTab w B T E g n cap gs cs m) (i : Nat) (hi : i < m.length) (hg : w.grownBy w' (some (gs i))) (r : List Int) (hr : r.length = (m.getD i []).length) (ho : Own w' B E (.slice (some ⟨gs i, 0, none⟩) r.length (cs i)) (icells r)) :
    MTab w' B T E g n cap gs cs (m.set i r) := by
  obtain ⟨fs, hfo, hf⟩ := h.own
  have len : ∀ k, k < m.length → ((m.set i r).getD k []).length = (m.getD k []).length := by
    intro k hk
    by_cases e : i = k
    · subst e; simp [List.getD_eq_getElem?_getD, hi] at hr ⊢; exact hr
    · simp [List.getD_eq_getElem?_getD, e]
  refine ⟨⟨fs, GB.own hg hfo (by intro k hk; simp [Value.ownBlock] at hk; subst hk; intro e; exact h.out i hi (Option.some.inj e)), fun k hk => ?_⟩, fun k hk => ?_, fun k hk => ?_, fun a b hab hb => ?_⟩
  · rw [List.length_set] at hk
    rw [len k hk]; exact hf k hk
  · rw [List.length_set] at hk
    by_cases e : i = k
    · subst e
      have e2 : (m.set i r).getD i [] = r := by simp [List.getD_eq_getElem?_getD, hi]
      rw [e2]; exact ho
    · have e2 : (m.set i r).getD k [] = m.getD k [] := by simp [List.getD_eq_getElem?_getD, e]
      rw [e2]
      refine GB.own hg (h.row k hk) ?_
      intro q hq
      simp [Value.ownBlock] at hq
      subst hq
      intro e3
      have e4 := Option.some.inj e3
      rcases Nat.lt_or_gt_of_ne e with h1 | h1
      · exact h.inj i k h1 hk e4
      · exact h.inj k i h1 hi e4.symm
  · rw [List.length_set] at hk; exact h.out k hk
  · rw [List.length_set] at hb; exact h.inj a b hab hb

/-- one number turned -/
def setM (m : List (List Int)) (i j : Nat) (x : Int) : List (List Int) := m.set i ((m.getD i []).set j x)
theorem setM_length (m : List (List Int)) (i j : Nat) (x : Int) : (setM m i j x).length = m.length := by simp [setM]
theorem MTab.set (h : MTab w B T E g n cap gs cs m) (i j : Nat) (hi : i < m.length) (x : Int) : MTab (w.setCell ⟨gs i, j, none⟩ (.int .i64 x)) B T E g n cap gs cs (setM m i j x) := by
  refine h.turn i hi (GB.setCell (GB.refl w _) j _) _ (by simp) ?_
  have := (h.row i hi).store j (.int .i64 x)
  rw [icells_set] at this
  rw [List.length_set]
  exact this

/-- all rows, as cells -/
def rowsV (gs cs : Nat → Nat) (m : List (List Int)) : List Value := (List.range m.length).map fun i => .slice (some ⟨gs i, 0, none⟩) (m.getD i []).length (cs i)
theorem rowsV_length (gs cs : Nat → Nat) (m : List (List Int)) : (rowsV gs cs m).length = m.length := by simp [rowsV]
theorem MTab.full (h : MTab w B T E g n cap gs cs m) (hn : n = m.length) : Own w B T (.slice (some ⟨g, 0, none⟩) n cap) (rowsV gs cs m) := by
  obtain ⟨fs, ho, hf⟩ := h.own
  have hl := ho.len
  have : fs = rowsV gs cs m := by
    apply List.ext_getElem?
    intro i
    by_cases hi : i < m.length
    · rw [hf i hi]; simp [rowsV, hi]
    · rw [List.getElem?_eq_none (by omega), List.getElem?_eq_none (by simp [rowsV]; omega)]
  rw [← this]; exact ho

theorem MTab.nil {cap : Nat} {fs : List Value} (h : Own w B T (.slice (some ⟨g, 0, none⟩) n cap) fs) (gs cs : Nat → Nat) : MTab w B T E g n cap gs cs [] :=
  ⟨⟨fs, h, fun i hi => by simp at hi⟩, fun i hi => by simp at hi, fun i hi => by simp at hi, fun i j _ hj => by simp at hj⟩

def updN (f : Nat → Nat) (k x : Nat) : Nat → Nat := fun i => if i = k then x else f i
theorem updN_at (f : Nat → Nat) (k x : Nat) : updN f k x k = x := by simp [updN]
theorem updN_ne (f : Nat → Nat) (k x i : Nat) (h : i ≠ k) : updN f k x i = f i := by simp [updN, h]

theorem getD_snoc_lt (m : List (List Int)) (r : List Int) (i : Nat) (h : i < m.length) : (m ++ [r]).getD i [] = m.getD i [] := by
  simp [List.getD_eq_getElem?_getD, List.getElem?_append_left h]
theorem getD_snoc_eq (m : List (List Int)) (r : List Int) : (m ++ [r]).getD m.length [] = r := by
  simp [List.getD_eq_getElem?_getD]

/-- one row more, the table itself being a new one -/
theorem MTab.grow {g' n' cap' : Nat} {r : List Int} {gr cr : Nat} {row : Option Nat} (h : MTab w B T E g n cap gs cs m) (hr : Own w B E (.slice (some ⟨gr, 0, none⟩) r.length cr) (icells r)) (hgr : gr ≠ g) (hgs : ∀ i, i < m.length → gs i ≠ gr)
    (hg : w.grownBy w' row) (hrow : ∀ k, row = some k → k = g) (hnew : g' = g ∨ w.heap.size ≤ g') (ho : ∃ fs, Own w' B T (.slice (some ⟨g', 0, none⟩) n' cap') fs ∧ (∀ i, i < m.length → fs[i]? = some (.slice (some ⟨gs i, 0, none⟩) (m.getD i []).length (cs i))) ∧ fs[m.length]? = some (.slice (some ⟨gr, 0, none⟩) r.length cr)) :
    MTab w' B T E g' n' cap' (updN gs m.length gr) (updN cs m.length cr) (m ++ [r]) := by
  obtain ⟨fs, hfo, hf, hl⟩ := ho
  have hgr2 := hr.lt
  refine ⟨⟨fs, hfo, fun i hi => ?_⟩, fun i hi => ?_, fun i hi => ?_, fun i j hij hj => ?_⟩
  · rw [List.length_append, List.length_singleton] at hi
    by_cases e : i = m.length
    · subst e; rw [updN_at, updN_at, getD_snoc_eq]; exact hl
    · rw [updN_ne _ _ _ _ e, updN_ne _ _ _ _ e, getD_snoc_lt _ _ _ (by omega)]; exact hf i (by omega)
  · rw [List.length_append, List.length_singleton] at hi
    by_cases e : i = m.length
    · subst e; rw [updN_at, updN_at, getD_snoc_eq]
      refine GB.own hg hr ?_
      intro k hk e2
      simp [Value.ownBlock] at hk
      have := hrow k e2
      omega
    · rw [updN_ne _ _ _ _ e, updN_ne _ _ _ _ e, getD_snoc_lt _ _ _ (by omega)]
      refine GB.own hg (h.row i (by omega)) ?_
      intro k hk e2
      simp [Value.ownBlock] at hk
      have := hrow k e2
      have := h.out i (by omega)
      omega
  · rw [List.length_append, List.length_singleton] at hi
    by_cases e : i = m.length
    · subst e; rw [updN_at]; omega
    · rw [updN_ne _ _ _ _ e]
      have h1 := h.out i (by omega)
      have h2 := h.rowlt i (by omega)
      omega
  · rw [List.length_append, List.length_singleton] at hj
    rw [updN_ne _ _ _ i (by omega)]
    by_cases e : j = m.length
    · subst e; rw [updN_at]; exact hgs i hij
    · rw [updN_ne _ _ _ _ e]; exact h.inj i j hij (by omega)

/-- .. behind an append -/
theorem MTab.push {v' : Value} {r : List Int} {gr cr : Nat} (h : MTab w B T E g n cap gs cs m) (hn : n = m.length) (hr : Own w B E (.slice (some ⟨gr, 0, none⟩) r.length cr) (icells r)) (hgr : gr ≠ g) (hgs : ∀ i, i < m.length → gs i ≠ gr)
    (hown : Own w' B T v' (rowsV gs cs m ++ [.slice (some ⟨gr, 0, none⟩) r.length cr])) (hg : w.grownBy w' (Value.slice (some ⟨g, 0, none⟩) n cap).ownBlock ∧ Moved w (Value.slice (some ⟨g, 0, none⟩) n cap) v') :
    ∃ g' cap' gs' cs', v' = .slice (some ⟨g', 0, none⟩) (n + 1) cap' ∧ MTab w' B T E g' (n + 1) cap' gs' cs' (m ++ [r]) := by
  have hsh := hown.shape
  have hlen : (rowsV gs cs m ++ [Value.slice (some ⟨gr, 0, none⟩) r.length cr]).length = n + 1 := by simp [rowsV_length, hn]
  rcases hsh with ⟨_, hnil⟩ | ⟨g', cap', hv, _, _, _, _⟩
  · rw [hnil] at hlen; simp at hlen
  rw [hlen] at hv
  subst hv
  refine ⟨g', cap', _, _, rfl, h.grow hr hgr hgs hg.1 (by intro k hk; simp [Value.ownBlock] at hk; omega) ?_ ⟨_, hown, fun i hi => ?_, ?_⟩⟩
  · rcases hg.2 with hm | hm
    · left; simpa [Value.ownBlock] using hm
    · right; exact hm g' rfl
  · rw [List.getElem?_append_left (by rw [rowsV_length]; exact hi)]
    simp [rowsV, hi]
  · rw [List.getElem?_append_right (by rw [rowsV_length]; exact Nat.le_refl _), rowsV_length, Nat.sub_self]; rfl

/-- .. behind a store -/
theorem MTab.put {r : List Int} {gr cr : Nat} (h : MTab w B T E g n cap gs cs m) (hn : m.length < n) (hr : Own w B E (.slice (some ⟨gr, 0, none⟩) r.length cr) (icells r)) (hgr : gr ≠ g) (hgs : ∀ i, i < m.length → gs i ≠ gr) :
    MTab (w.setCell ⟨g, m.length, none⟩ (.slice (some ⟨gr, 0, none⟩) r.length cr)) B T E g n cap (updN gs m.length gr) (updN cs m.length cr) (m ++ [r]) := by
  obtain ⟨fs, ho, hf⟩ := h.own
  have hl := ho.len
  refine h.grow hr hgr hgs (GB.setCell (GB.refl w (some g)) _ _) (by intro k hk; exact (Option.some.inj hk).symm) (.inl rfl) ⟨_, ho.store m.length _, fun i hi => ?_, ?_⟩
  · rw [List.getElem?_set_ne (by omega)]; exact hf i hi
  · rw [List.getElem?_set_self (by omega)]
end

/-! ### What a marked table holds -/
def countL (k : Int) (n : Nat) : List Int := (List.range n).map fun i : Nat => k + (i : Int)
theorem countL_length (k : Int) (n : Nat) : (countL k n).length = n := by simp [countL]
theorem countL_at (k : Int) (n j : Nat) (h : j < n) : (countL k n).getD j 0 = k + (j : Int) := by simp [countL, List.getD_eq_getElem?_getD, h]
def sizeM (m : List (List Int)) : Nat := (m.map List.length).sum
def markM : Int → List (List Int) → List (List Int)
  | _, [] => []
  | k, r :: m => countL k r.length :: markM (k + (r.length : Int)) m
theorem markM_length (k : Int) (m : List (List Int)) : (markM k m).length = m.length := by
  induction m generalizing k with
  | nil => rfl
  | cons r m ih => simp [markM, ih]
theorem sizeM_take (m : List (List Int)) (i : Nat) (h : i < m.length) : sizeM (m.take (i + 1)) = sizeM (m.take i) + (m.getD i []).length := by
  unfold sizeM
  rw [List.take_succ_eq_append_getElem h, List.map_append, List.sum_append]
  simp [List.getD_eq_getElem?_getD, List.getElem?_eq_getElem h]
theorem sizeM_take_le (m : List (List Int)) (i : Nat) : sizeM (m.take i) ≤ sizeM m := by
  unfold sizeM
  have := congrArg (fun l => (l.map List.length).sum) (List.take_append_drop i m)
  simp only [List.map_append, List.sum_append] at this
  omega
theorem sizeM_row (m : List (List Int)) (i : Nat) (h : i < m.length) : (m.getD i []).length ≤ sizeM m := by
  have h1 := sizeM_take m i h
  have h2 := sizeM_take_le m (i + 1)
  omega
theorem sizeM_all (m : List (List Int)) : sizeM (m.take m.length) = sizeM m := by rw [List.take_length]
theorem markM_at (k : Int) (m : List (List Int)) (i : Nat) (h : i < m.length) : (markM k m).getD i [] = countL (k + (sizeM (m.take i) : Nat)) (m.getD i []).length := by
  induction m generalizing k i with
  | nil => simp at h
  | cons r m ih =>
    cases i with
    | zero => simp [markM, sizeM]
    | succ i =>
      have := ih (k + (r.length : Int)) i (by simpa using h)
      simp only [markM, List.getD_cons_succ, List.take_succ_cons]
      rw [this]
      congr 1
      unfold sizeM
      simp
      omega
theorem sizeM_markM (k : Int) (m : List (List Int)) : sizeM (markM k m) = sizeM m := by
  induction m generalizing k with
  | nil => rfl
  | cons r m ih =>
    have := ih (k + (r.length : Int))
    unfold sizeM at this ⊢
    simp [markM, this, countL_length]
/-- marked up to a row -/
def markTo (k : Int) (m : List (List Int)) (i : Nat) : List (List Int) := markM k (m.take i) ++ m.drop i
theorem markTo_length (k : Int) (m : List (List Int)) (i : Nat) : (markTo k m i).length = m.length := by simp [markTo, markM_length]; omega
theorem markTo_zero (k : Int) (m : List (List Int)) : markTo k m 0 = m := by simp [markTo, markM]
theorem markTo_all (k : Int) (m : List (List Int)) : markTo k m m.length = markM k m := by simp [markTo]
theorem markTo_lt (k : Int) (m : List (List Int)) (i j : Nat) (hi : i ≤ m.length) (h : j < i) : (markTo k m i).getD j [] = countL (k + (sizeM (m.take j) : Nat)) (m.getD j []).length := by
  unfold markTo
  have e : (markM k (m.take i) ++ m.drop i).getD j [] = (markM k (m.take i)).getD j [] := by
    simp only [List.getD_eq_getElem?_getD]
    rw [List.getElem?_append_left (by rw [markM_length, List.length_take]; omega)]
  rw [e, markM_at _ _ _ (by rw [List.length_take]; omega), List.take_take, Nat.min_eq_left (by omega)]
  congr 2
  simp [List.getD_eq_getElem?_getD, h]
theorem markTo_ge (k : Int) (m : List (List Int)) (i j : Nat) (hi : i ≤ m.length) (h : i ≤ j) : (markTo k m i).getD j [] = m.getD j [] := by
  unfold markTo
  simp only [List.getD_eq_getElem?_getD]
  rw [List.getElem?_append_right (by rw [markM_length, List.length_take]; omega), markM_length, List.length_take, Nat.min_eq_left hi, List.getElem?_drop, Nat.add_sub_cancel' h]
theorem ext_getD {a b : List (List Int)} (hl : a.length = b.length) (h : ∀ i, i < a.length → a.getD i [] = b.getD i []) : a = b := by
  apply List.ext_getElem hl
  intro i h1 h2
  have := h i h1
  simpa [List.getD_eq_getElem?_getD, List.getElem?_eq_getElem h1, List.getElem?_eq_getElem h2] using this
theorem markTo_succ (k : Int) (m : List (List Int)) (i : Nat) (h : i < m.length) : markTo k m (i + 1) = (markTo k m i).set i (countL (k + (sizeM (m.take i) : Nat)) (m.getD i []).length) := by
  apply ext_getD
  · rw [List.length_set, markTo_length, markTo_length]
  · intro j hj
    rw [markTo_length] at hj
    by_cases e : i = j
    · subst e
      rw [markTo_lt _ _ _ _ (by omega) (by omega)]
      have e : ∀ r : List Int, ((markTo k m i).set i r).getD i [] = r := fun r => by rw [List.getD_eq_getElem?_getD, List.getElem?_set_self (by rw [markTo_length]; exact h)]; rfl
      rw [e]
    · have e2 : ((markTo k m i).set i (countL (k + (sizeM (m.take i) : Nat)) (m.getD i []).length)).getD j [] = (markTo k m i).getD j [] := by
        rw [List.getD_eq_getElem?_getD, List.getElem?_set_ne e, ← List.getD_eq_getElem?_getD]
      rw [e2]
      rcases Nat.lt_or_ge j i with h1 | h1
      · rw [markTo_lt _ _ _ _ (by omega) (by omega), markTo_lt _ _ _ _ (by omega) h1]
      · rw [markTo_ge _ _ _ _ (by omega) (by omega), markTo_ge _ _ _ _ (by omega) h1]

/-- what is left of a bound when a table is taken off -/
def leftM (n : Int) (m : List (List Int)) : Int := if n - (m.length : Int) - (sizeM m : Int) < 0 then -1 else n - (m.length : Int) - (sizeM m : Int)
theorem leftM_le (n : Int) (m : List (List Int)) (h : 0 ≤ n) : leftM n m ≤ n := by unfold leftM; split <;> omega
theorem leftM_fits {n : Int} {m : List (List Int)} (h : 0 ≤ leftM n m) : (m.length : Int) + (sizeM m : Int) ≤ n := by
  unfold leftM at h
  split at h <;> omega
end Go

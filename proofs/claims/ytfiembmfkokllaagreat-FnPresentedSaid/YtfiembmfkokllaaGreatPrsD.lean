/- Contracts: shifts drawn (1): what a region may do that appends to a row of the call's own. -/
import Derived.Test.YtfiembmfkokllaaGreatPrsC
import Derived.Test.YtfiembmfkokllaaGreatPkR
import Derived.Test.YtfiembmfkokllaaGreatOwn6
namespace Go.Proofs.YtfiembmfkokllaaGreat
open Go.RowKit Go.Cm

/-- a literal of texts, laid by the region itself -/
def LitJ (B z : Nat) (l : List ByteArray) (n cap : Nat) (v : Value) (w : World) : Prop := Cur B w z ∧ ∃ b, v = .slice (some ⟨b, 0, none⟩) n cap ∧ ∀ w', Drawn B z w w' → Reads w' v (l.map .string)
theorem LitJ.ok {B z : Nat} (l : List ByteArray) (n cap : Nat) (v : Value) (w w' : World) (h : (drawRel B z).r w w') (k : LitJ B z l n cap v w) : LitJ B z l n cap v w' := by
  obtain ⟨c, b, hv, hr⟩ := k
  have hd : Drawn B z w w' := h c
  exact ⟨hd.cur, b, hv, fun w'' h' => hr w'' (hd.trans h')⟩
theorem LitJ.elim {B z : Nat} {l : List ByteArray} {n cap : Nat} {v : Value} {w : World} (h : LitJ B z l n cap v w) {C : Prop} (k : ∀ b, v = .slice (some ⟨b, 0, none⟩) n cap → (∀ w', Drawn B z w w' → Reads w' (.slice (some ⟨b, 0, none⟩) n cap) (l.map .string)) → C) : C := by
  obtain ⟨c, b, hv, hr⟩ := h
  exact k b hv (fun w' hd => hv ▸ hr w' hd)
theorem LitJ.new {B z : Nat} {w : World} {t : TypeId} {cs : Array Value} {l : List ByteArray} {n : Nat} (c : Cur B w z) (h : strsOf cs.toList = some l) (hn : n = l.length) (hm : n ≤ 1000) : Drawn B z w (w.alloc (.cells cs t)) ∧ LitJ B z l n n (.slice (some ⟨w.heap.size, 0, none⟩) n n) (w.alloc (.cells cs t)) := by
  refine ⟨(Drawn.start c).alloc _, c.ext (Ext.alloc _ _), _, rfl, fun w' hd => ?_⟩
  have h1 := lit_reads c (strsOf_map h) (n := n) (cap := n) (by rw [List.length_map]; omega) (Nat.le_refl _) hm w' hd
  rwa [List.take_of_length_le (by rw [List.length_map]; omega)] at h1
theorem LitJ.cut {B z : Nat} {w : World} {l : List ByteArray} {n m cap b : Nat} (c : Cur B w z) (hm : m ≤ n) (hn : n = l.length) (h : ∀ w', Drawn B z w w' → Reads w' (.slice (some ⟨b, 0, none⟩) n cap) (l.map .string)) : LitJ B z (l.take m) m cap (.slice (some ⟨b, 0, none⟩) m cap) w := by
  refine ⟨c, _, rfl, fun w' hd => ?_⟩
  obtain ⟨a, cap', hv, h1, h2, h3⟩ := h w' hd
  have hl : ((l.take m).map Value.string).length = m := by simp; omega
  have hl' : (l.map Value.string).length = n := by simp; omega
  simp only [hl', Value.slice.injEq] at hv
  obtain ⟨rfl, -, rfl⟩ := hv
  refine ⟨_, _, by rw [hl], by omega, h2, fun i hi => ?_⟩
  obtain ⟨b', o', h4, h5⟩ := h3 i (by omega)
  exact ⟨b', o', h4, by rw [h5]; simp⟩

/-- the three letters as texts -/
def abcL : List ByteArray := [⟨#[97]⟩, ⟨#[98]⟩, ⟨#[99]⟩]
theorem abc_len {x : ByteArray} (h : x ∈ abcL) : x.size ≤ 64 := by
  have h1 : ∀ x ∈ abcL, x.size ≤ 64 := by decide
  exact h1 x h
/-- the first of them, in a literal -/
def AbcJ (B z m : Nat) (v : Value) (w : World) : Prop := LitJ B z (abcL.take m) m 3 v w
theorem AbcJ.ok {B z : Nat} (m : Nat) (v : Value) (w w' : World) (h : (drawRel B z).r w w') (k : AbcJ B z m v w) : AbcJ B z m v w' := LitJ.ok _ _ _ v w w' h k
theorem AbcJ.elim {B z m : Nat} {v : Value} {w : World} (h : AbcJ B z m v w) {C : Prop} (k : ∀ b, v = .slice (some ⟨b, 0, none⟩) m 3 → (∀ w', Drawn B z w w' → Reads w' (.slice (some ⟨b, 0, none⟩) m 3) ((abcL.take m).map .string)) → C) : C := LitJ.elim h k
theorem AbcJ.new {B z : Nat} {w : World} {t : TypeId} (c : Cur B w z) : Drawn B z w (w.alloc (.cells #[.string ⟨#[97]⟩, .string ⟨#[98]⟩, .string ⟨#[99]⟩] t)) ∧ AbcJ B z 3 (.slice (some ⟨w.heap.size, 0, none⟩) 3 3) (w.alloc (.cells #[.string ⟨#[97]⟩, .string ⟨#[98]⟩, .string ⟨#[99]⟩] t)) := LitJ.new (l := abcL) c rfl rfl (by omega)
theorem AbcJ.cut {B z m b : Nat} {w : World} (c : Cur B w z) (hm : m ≤ 3) (h : ∀ w', Drawn B z w w' → Reads w' (.slice (some ⟨b, 0, none⟩) 3 3) ((abcL.take 3).map .string)) : AbcJ B z m (.slice (some ⟨b, 0, none⟩) m 3) w := LitJ.cut (l := abcL) c hm rfl h
theorem AbcJ.pick {B z m b : Nat} {w : World} (c : Cur B w z) (hm0 : 0 < m) (hm : m ≤ 3) (h : ∀ w', Drawn B z w w' → Reads w' (.slice (some ⟨b, 0, none⟩) m 3) ((abcL.take m).map .string)) :
    Calls Tryz.prog 67 #[.pointer (some ⟨z, 0, none⟩), .slice (some ⟨b, 0, none⟩) m 3] w fun e w'' => ∃ v, e = .returned v ∧ Drawn B z w w'' ∧ StrLe 64 v w'' :=
  (spec_l1Pick_any B z _ _ _ c (by rw [List.length_take]; show 0 < min m 3; omega) h).mono (by rintro e w'' ⟨x, rfl, hm, hd'⟩; exact ⟨_, rfl, hd', x, rfl, abc_len (List.mem_of_mem_take hm)⟩)

/-! ### an append in a region whose order is drawn -/
/-- an append of one: in place, or into new memory -/
theorem run_append_where {P : Program} {w : World} (t ty E : TypeId) (z : Value) (bytes : Nat) (ht : P.underlying t = some (.slice E)) (hinfo : (P.info? E).map (fun i => (i.zero, i.size, i.bytes)) = some (some z, 1, bytes)) (hz1 : z.cells = #[z])
    (B : Nat) (v : Value) (fs : List Value) (hown : Own w B E v fs) (ad : Addr) (c : Nat) (u : Value) (hu : w.cell? ad = some u) (h1 : u.oneCell' = true)
    (hlen : fs.length + 1 ≤ maxLen) (hbytes : (fs.length + 1) * bytes ≤ 140737488355328) (hbase : B ≤ w.heap.size) :
    ∃ v' w', (Builtin.append_ #[t, t] ty #[v, .slice (some ad) 1 c]).run P w = .ok v' w' ∧ Own w' B E v' (fs ++ [u]) ∧ ((∃ g cap, v = .slice (some ⟨g, 0, none⟩) fs.length cap ∧ v' = .slice (some ⟨g, 0, none⟩) (fs.length + 1) cap ∧ w.grownBy w' (some g)) ∨ (w.grownBy w' none ∧ ∀ k, v'.ownBlock = some k → w.heap.size ≤ k)) := by
  obtain ⟨i, hi, hzz⟩ := Option.map_eq_some_iff.1 hinfo
  simp only [Prod.mk.injEq] at hzz
  obtain ⟨hz, hsz, hb⟩ := hzz
  have hnews : ∀ (j : Nat) (u' : Value), [u][j]? = some u' → w.cell? (ad.add j) = some u' := by
    intro j u' hj
    match j, hj with
    | 0, hj => simp at hj; subst hj; simpa [Addr.add] using hu
  have hlen63 : fs.length + 1 ≤ 9223372036854775807 := by simp only [maxLen] at hlen; omega
  -- a new block
  have fresh : ∀ old, (w.drew.alloc (.cells (fs.toArray ++ [u].toArray ++ Builtin.zeroCells z.cells (grownCap w (fs.length + 1) old E - (fs.length + 1))) E)).ownsRow B E 1 (.slice (some ⟨w.heap.size, 0, none⟩) (fs.length + 1) (grownCap w (fs.length + 1) old E)) (fs.length + 1) (fs ++ [u]) := by
    intro old
    have hge := grownCap_ge w (fs.length + 1) old E
    refine ⟨by simp, .inr ⟨w.heap.size, _, _, rfl, hbase, heap_alloc_new w.drew _, hge, grownCap_le_maxLen w (fs.length + 1) old E hlen, ?_, ?_⟩⟩
    · simp only [Array.size_append, List.size_toArray, size_zeroCells, hz1, List.length_cons, List.length_nil]
      show fs.length + 1 + (grownCap w (fs.length + 1) old E - (fs.length + 1)) * 1 = _
      omega
    · simp only [Array.toList_append, Nat.mul_one]
      rw [show fs.length + 1 = (fs ++ [u]).length by simp]
      exact List.take_left
  have fgrown : ∀ (old : Nat) (row : Option Nat), w.grownBy (w.drew.alloc (.cells (fs.toArray ++ [u].toArray ++ Builtin.zeroCells z.cells (grownCap w (fs.length + 1) old E - (fs.length + 1))) E)) row :=
    fun old row => ⟨rfl, rfl, rfl, by simp, fun k hk _ => Below.heap_alloc w.drew _ k hk⟩
  rcases hown.2 with ⟨hv, hn⟩ | ⟨g, cap, cur, hv, hbg, hg, hnc, hcm, hcs, htake⟩
  · have hf : fs = [] := List.eq_nil_of_length_eq_zero hn
    subst hf; subst hv
    have hr := run_append_nil (P := P) w t ty E i z ht hi hz ad 1 c [u] (by simp [hsz]) hnews (by omega) (by omega) (by rw [hb]; simp only [List.length_nil, Nat.zero_add] at hbytes; omega)
    have h2 := fresh 0
    have h3 := fgrown 0 none
    simp only [List.length_nil, Nat.zero_add, List.nil_append, Array.empty_append] at h2 h3
    exact ⟨_, _, hr, h2, .inr ⟨h3, fun k hk => by simp [Value.ownBlock] at hk; omega⟩⟩
  · subst hv
    by_cases hroom : fs.length + 1 ≤ cap
    · have hr := run_append_room (P := P) w t ty E i ht hi g fs.length cap cur hg ad 1 c [u] (by simp [hsz]) hnews (by intro u' hu'; simp at hu'; subst hu'; exact h1) hroom (by rw [hsz, hcs]; simp; omega)
      rw [hsz] at hr
      refine ⟨_, _, hr, ?_, .inl ⟨g, cap, rfl, rfl, ⟨rfl, rfl, rfl, by simp, fun k _ hk => setRow_other w g k _ (fun e => hk (by rw [e]))⟩⟩⟩
      unfold Own
      rw [List.length_append]
      refine ⟨by simp, .inr ⟨g, cap, _, rfl, hbg, setRow_heap w g cur _ E _ hg, hroom, hcm, ?_, ?_⟩⟩
      · simp only [List.size_toArray, List.length_append, List.length_take, List.length_drop, Array.length_toList, List.length_singleton]
        omega
      · rw [htake]
        show List.take ((fs.length + 1) * 1) (fs ++ [u] ++ _) = _
        rw [show (fs.length + 1) * 1 = (fs ++ [u]).length by simp]
        exact List.take_left
    · have holds : ∀ (j : Nat) (u' : Value), fs[j]? = some u' → w.cell? ((⟨g, 0, none⟩ : Addr).add j) = some u' := hown.cells (g := g) rfl
      have hr := run_append_grow (P := P) w t ty E i z ht hi hz ⟨g, 0, none⟩ fs.length cap fs (by simp [hsz]) holds ad 1 c [u] (by simp [hsz]) hnews (by omega) (by omega) (by rw [hb]; exact growslice_fits (by omega) hbytes)
      refine ⟨_, _, hr, ?_, .inr ⟨fgrown cap _, fun k hk => by simp [Value.ownBlock] at hk; omega⟩⟩
      unfold Own
      rw [List.length_append]
      exact fresh cap

/-- a short text -/
def Short (u : Value) : Prop := ∃ x : ByteArray, u = .string x ∧ x.size ≤ 64
/-- the cursor turns, and the row v may get one cell more behind its end -/
structure RowK (B z b : Nat) (E : TypeId) (v : Value) (fs : List Value) (w w' : World) : Prop where
  cur : Cur B w' z
  os : w'.os = w.os
  tape : w'.tape = w.tape
  output : w'.output = w.output
  size : w.heap.size ≤ w'.heap.size
  block : ∀ k, k < w.heap.size → k ≠ z → v.ownBlock ≠ some k → w'.heap[k]? = w.heap[k]?
  own : Own w b E v fs → Own w' b E v fs
  app : Own w b E v fs → ∀ v', v'.ownBlock = v.ownBlock → v'.ownBlock ≠ none → (∃ u, Short u ∧ Own w b E v' (fs ++ [u])) → ∃ u, Short u ∧ Own w' b E v' (fs ++ [u])
theorem own_block {w w' : World} {B : Nat} {E : TypeId} {v : Value} {fs : List Value} (h : Own w B E v fs) (hb : ∀ k, v.ownBlock = some k → w'.heap[k]? = w.heap[k]?) : Own w' B E v fs := by
  rcases h.2 with ⟨hv, hn⟩ | ⟨g, cap, cur, hv, hbg, hg, hnc, hcm, hcs, htake⟩
  · exact ⟨h.1, .inl ⟨hv, hn⟩⟩
  · exact ⟨h.1, .inr ⟨g, cap, cur, hv, hbg, (hb g (by rw [hv]; rfl)).trans hg, hnc, hcm, hcs, htake⟩⟩
theorem RowK.ofGrown {B z b : Nat} {E : TypeId} {v : Value} {fs : List Value} {w w' : World} {row : Option Nat} (hc : Cur B w' z) (h : w.grownBy w' row) (hr : row = none ∨ row = some z) (hz : v.ownBlock ≠ some z) : RowK B z b E v fs w w' := by
  have hne : ∀ k, k < w.heap.size → k ≠ z → w'.heap[k]? = w.heap[k]? := fun k hk hkz => h.block k hk (by
    rcases hr with rfl | rfl
    · simp
    · exact fun e => hkz (by have := Option.some.inj e; omega))
  refine ⟨hc, h.os, h.tape, h.output, h.size, fun k hk h1 _ => hne k hk h1, fun ho => own_block ho fun k hk => hne k (World.ownsRow.lt ho k hk).2 (fun e => hz (by rw [hk, e])), fun ho v' hv _ ⟨u, hu, h2⟩ => ⟨u, hu, own_block h2 fun k hk => hne k (World.ownsRow.lt h2 k hk).2 (fun e => hz (by rw [← hv, hk, e]))⟩⟩
theorem RowK.start {B z b : Nat} {E : TypeId} {v : Value} {fs : List Value} {w : World} (c : Cur B w z) : RowK B z b E v fs w w := ⟨c, rfl, rfl, rfl, Nat.le_refl _, fun _ _ _ _ => rfl, fun h => h, fun _ _ _ _ h => h⟩
theorem RowK.trans {B z b : Nat} {E : TypeId} {v : Value} {fs : List Value} {x y t : World} (h : RowK B z b E v fs x y) (k : RowK B z b E v fs y t) : RowK B z b E v fs x t :=
  ⟨k.cur, k.os.trans h.os, k.tape.trans h.tape, k.output.trans h.output, Nat.le_trans h.size k.size, fun i hi h1 h2 => (k.block i (Nat.lt_of_lt_of_le hi h.size) h1 h2).trans (h.block i hi h1 h2), fun ho => k.own (h.own ho), fun ho v' h1 h2 h3 => k.app (h.own ho) v' h1 h2 (h.app ho v' h1 h2 h3)⟩
theorem RowK.cell {B z b : Nat} {E : TypeId} {v : Value} {fs : List Value} {w w' : World} (h : RowK B z b E v fs w w') {a : Addr} {x : Value} (hc : w.cell? a = some x) (hz : a.block ≠ z) (hr : v.ownBlock ≠ some a.block) : w'.cell? a = some x :=
  (World.cell?_of_block (h.block a.block (World.block_lt_of_cell? w a hc) hz hr)).trans hc
theorem RowK.drawn {B z b : Nat} {E : TypeId} {v : Value} {fs : List Value} {w0 w w' : World} (h : RowK B z b E v fs w w') (hd : Drawn B z w0 w) (hr : ∀ k, v.ownBlock = some k → w0.heap.size ≤ k) : Drawn B z w0 w' :=
  ⟨hd.low, hd.lt, ⟨h.os.trans hd.grown.os, h.tape.trans hd.grown.tape, h.output.trans hd.grown.output, Nat.le_trans hd.grown.size h.size, fun k hk hne => (h.block k (Nat.lt_of_lt_of_le hk hd.grown.size) (fun e => hne (by rw [e])) (fun e => by have := hr k e; omega)).trans (hd.grown.block k hk hne)⟩, h.cur⟩
def rowRel (B z b : Nat) (E : TypeId) (v : Value) (fs : List Value) : Rel where
  r w w' := (Cur B w z ∧ v.ownBlock ≠ some z) → RowK B z b E v fs w w'
  refl _ c := RowK.start c.1
  trans h k c := (h c).trans (k ⟨(h c).cur, c.2⟩)
  drew w c := RowK.ofGrown (row := none) (c.1.ext (Ext.drew w)) (grown_ext (Ext.drew w) none) (.inl rfl) c.2
@[go_sem] theorem rowRel_r (B z b : Nat) (E : TypeId) (v : Value) (fs : List Value) (w w' : World) : (rowRel B z b E v fs).r w w' = ((Cur B w z ∧ v.ownBlock ≠ some z) → RowK B z b E v fs w w') := rfl
/-- a row that lies beside, of values that are so -/
def BesJ (B z s0 n : Nat) (E : TypeId) (P : List Value → Prop) (v : Value) (w : World) : Prop := Cur B w z ∧ ∃ g, v = .slice (some ⟨g, 0, none⟩) n n ∧ ∃ l, P l ∧ Own w s0 E v l
theorem BesJ.ok {B z b s0 n : Nat} {E E' : TypeId} {v0 : Value} {fs : List Value} {P : List Value → Prop} (hz : z < s0) (hv : ∀ k, v0.ownBlock = some k → k < s0) (hvz : v0.ownBlock ≠ some z) (v : Value) (w w' : World) (h : (rowRel B z b E' v0 fs).r w w') (k : BesJ B z s0 n E P v w) : BesJ B z s0 n E P v w' := by
  obtain ⟨c, g, e, l, hp, ho⟩ := k
  have h := h ⟨c, hvz⟩
  refine ⟨h.cur, g, e, l, hp, own_block ho fun q hq => ?_⟩
  have h1 := World.ownsRow.lt ho q hq
  exact h.block q h1.2 (by omega) (fun e => by have := hv q e; omega)
/-- the row with one short text more -/
def AppJ (B z b : Nat) (E : TypeId) (v0 : Value) (fs : List Value) (v : Value) (w : World) : Prop := Cur B w z ∧ Own w b E v0 fs ∧ ∃ q c, v = .slice q (fs.length + 1) c ∧ ∃ u, Short u ∧ Own w b E v (fs ++ [u])
theorem own_some {w : World} {B : Nat} {E : TypeId} {v u : Value} {fs : List Value} (h : Own w B E v (fs ++ [u])) : v.ownBlock ≠ none := by
  rcases h.shape with ⟨_, hn⟩ | ⟨g, c, rfl, _⟩
  · simp at hn
  · simp [Value.ownBlock]
theorem AppJ.ok {B z b : Nat} {E : TypeId} {v0 : Value} {fs : List Value} (hz : z < b) (v : Value) (w w' : World) (h : (rowRel B z b E v0 fs).r w w') (k : AppJ B z b E v0 fs v w) : AppJ B z b E v0 fs v w' := by
  obtain ⟨c, h0, q, c1, e, u, hu, ho⟩ := k
  have h := h ⟨c, fun e => by have := (World.ownsRow.lt h0 z e).1; omega⟩
  by_cases hb : v.ownBlock = v0.ownBlock
  · obtain ⟨u', hu', ho'⟩ := h.app h0 v hb (own_some ho) ⟨u, hu, ho⟩
    exact ⟨h.cur, h.own h0, q, c1, e, u', hu', ho'⟩
  · refine ⟨h.cur, h.own h0, q, c1, e, u, hu, own_block ho fun k hk => ?_⟩
    have h1 := World.ownsRow.lt ho k hk
    exact h.block k h1.2 (by omega) (fun e => hb (by rw [hk, e]))
theorem own_cap {w : World} {B B' : Nat} {E E' : TypeId} {g n n' c c' : Nat} {fs fs' : List Value} (h : Own w B E (.slice (some ⟨g, 0, none⟩) n c) fs) (h' : Own w B' E' (.slice (some ⟨g, 0, none⟩) n' c') fs') : c = c' := by
  rcases h.2 with ⟨hv, _⟩ | ⟨g1, cap, cur, hv, _, hg, _, _, hcs, _⟩
  · cases hv
  · rcases h'.2 with ⟨hv', _⟩ | ⟨g2, cap', cur', hv', _, hg', _, _, hcs', _⟩
    · cases hv'
    · injection hv with e1 e2 e3
      injection hv' with e1' e2' e3'
      have a1 : g = g1 := by simpa using e1
      have a2 : g = g2 := by simpa using e1'
      subst a1 a2
      rw [hg] at hg'
      injection hg' with hg'
      injection hg' with e4 e5
      subst e4
      omega
theorem leavesR_append {P : Program} {w : World} {o : Oper} {f : Operand → Value} (s x : Operand) (t : TypeId)
    (ho : o.op = .call { callee := .builtin .append, args := #[s, x], argTypes := #[t, t] })
    (E : TypeId) (zv : Value) (bytes : Nat) (ht : P.underlying t = some (.slice E)) (hinfo : (P.info? E).map (fun i => (i.zero, i.size, i.bytes)) = some (some zv, 1, bytes)) (hz1 : zv.cells = #[zv])
    (B z b s0 : Nat) (v : Value) (fs : List Value) (hs : f s = v) (hown : Own w b E v fs) (hx : BesJ B z s0 1 E (fun l => ∃ u, Short u ∧ l = [u]) (f x) w)
    (hlen : fs.length + 1 ≤ maxLen) (hbytes : (fs.length + 1) * bytes ≤ 140737488355328) (hbase : b ≤ w.heap.size) (hBb : B ≤ b) (hzb : z < b) :
    Oper.leavesR (rowRel B z b E v fs) P (AppJ B z b E v fs) w ((execOp f o).run P w) := by
  obtain ⟨c, g, e, l, ⟨u, hu, rfl⟩, hl⟩ := hx
  have h1 : u.oneCell' = true := by obtain ⟨y, rfl, _⟩ := hu; rfl
  have hcl : w.cell? ⟨g, 0, none⟩ = some u := by rw [e] at hl; exact hl.cell 0 (by simp)
  obtain ⟨v', w', hr, h2, h3⟩ := run_append_where (P := P) t o.type E zv bytes ht hinfo hz1 b v fs hown ⟨g, 0, none⟩ 1 u hcl h1 hlen hbytes hbase
  have hvz : v.ownBlock ≠ some z := fun e => by have := (World.ownsRow.lt hown z e).1; omega
  have hv' : ∃ q c', v' = .slice q (fs.length + 1) c' := by
    rcases h2.shape with ⟨_, hn⟩ | ⟨g', c', hv, _⟩
    · simp at hn
    · exact ⟨some ⟨g', 0, none⟩, c', by rw [hv, List.length_append]; rfl⟩
  have hk : RowK B z b E v fs w w' := by
    rcases h3 with ⟨g0, cap, rfl, rfl, hg⟩ | ⟨hg, _⟩
    · have hb0 := World.ownsRow.lt hown g0 rfl
      have hback : Own w' b E (.slice (some ⟨g0, 0, none⟩) fs.length cap) fs := by
        have := h2.take fs.length (by omega)
        rwa [List.take_left] at this
      refine ⟨c.kept hg (fun e => hvz (by simpa [Value.ownBlock] using e)) (fun k e => by have := Option.some.inj e; omega), hg.os, hg.tape, hg.output, hg.size, fun k hk _ h2 => hg.block k hk (fun e => h2 (by rw [e]; rfl)), fun _ => hback, fun _ v'' e1 _ ⟨u', hu', h4⟩ => ⟨u, hu, ?_⟩⟩
      rcases h4.shape with ⟨_, hn⟩ | ⟨g', c', rfl, _⟩
      · simp at hn
      · have e2 : g' = g0 := by simpa [Value.ownBlock] using e1
        subst e2
        have := own_cap h4 hown
        subst this
        simpa using h2
    · exact RowK.ofGrown (row := none) (c.kept hg (by simp) (fun k e => by cases e)) hg (.inl rfl) hvz
  unfold execOp
  simp only [ho, resolve, invoke, builtin, Sem.run_bind, Sem.run_pure, Result.andThen_ok, List.map_toArray, List.map_cons, List.map_nil, hs, e, hr]
  obtain ⟨q, c', hv'⟩ := hv'
  exact ⟨fun _ => hk, hk.cur, hk.own hown, q, c', hv', u, hu, h2⟩
end Go.Proofs.YtfiembmfkokllaaGreat

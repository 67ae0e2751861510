/- Rows of structs of two one-cell fields that a call itself makes: an append of one element. No dump is imported. -/
import Derived.Test.YtfkdpeifnfpldaaPkM
namespace Go
open Go.RowKit

/-- A row of n elements of two cells each. -/
def Own2 (w : World) (B : Nat) (E : TypeId) (v : Value) (n : Nat) (fs : List Value) : Prop := w.ownsRow B E 2 v n fs

theorem Own2.shape {w : World} {B : Nat} {E : TypeId} {v : Value} {n : Nat} {fs : List Value} (h : Own2 w B E v n fs) (hn : 0 < n) : ∃ g cap, v = .slice (some ⟨g, 0, none⟩) n cap ∧ B ≤ g ∧ g < w.heap.size := by
  rcases h.2 with ⟨hv, h0⟩ | ⟨g, cap, cur, hv, hb, hg, h1, h2, _⟩
  · omega
  · exact ⟨g, cap, hv, hb, (Array.getElem?_eq_some_iff.1 hg).1⟩
theorem Own2.cell {w : World} {B : Nat} {E : TypeId} {g n cap : Nat} {fs : List Value} (h : Own2 w B E (.slice (some ⟨g, 0, none⟩) n cap) n fs) (j : Nat) (hj : j < n * 2) : w.cell? ⟨g, j, none⟩ = fs[j]? := World.ownsRow.cellAt h j hj
theorem Own2.ext {w w' : World} {B : Nat} {E : TypeId} {v : Value} {n : Nat} {fs : List Value} (h : Own2 w B E v n fs) (hx : Ext w w') : Own2 w' B E v n fs := by
  refine ⟨h.1, ?_⟩
  rcases h.2 with hn | ⟨g, cap, cur, hv, hb, hg, rest⟩
  · exact .inl hn
  · exact .inr ⟨g, cap, cur, hv, hb, by rw [Below.block hx g (Array.getElem?_eq_some_iff.1 hg).1]; exact hg, rest⟩
theorem GB.own2 {W wr : World} {row : Option Nat} (h : W.grownBy wr row) {B : Nat} {E : TypeId} {u : Value} {n : Nat} {fs : List Value} (ho : Own2 W B E u n fs) (hne : ∀ k, u.ownBlock = some k → row ≠ some k) : Own2 wr B E u n fs := by
  refine World.ownsRow.kept ho h ?_
  cases hu : u.ownBlock with
  | none => exact .inl rfl
  | some k => exact .inr fun e => hne k hu e.symm

theorem run_append_two {P : Program} {w : World} (t ty E : TypeId) (z : Value) (bytes : Nat) (ht : P.underlying t = some (.slice E)) (hinfo : (P.info? E).map (fun i => (i.zero, i.size, i.bytes)) = some (some z, 2, bytes)) (hz1 : z.cells.size = 2)
    (B : Nat) (v : Value) (n : Nat) (fs : List Value) (hown : Own2 w B E v n fs) (ad : Addr) (c : Nat) (x y : Value) (hxc : w.cell? ad = some x) (hyc : w.cell? (ad.add 1) = some y) (h1 : x.oneCell' = true) (h2 : y.oneCell' = true)
    (hlen : n + 1 ≤ maxLen) (hbytes : (n + 1) * bytes ≤ 140737488355328) (hbase : B ≤ w.heap.size) :
    ∃ v' w', (Builtin.append_ #[t, t] ty #[v, .slice (some ad) 1 c]).run P w = .ok v' w' ∧ Own2 w' B E v' (n + 1) (fs ++ [x, y]) ∧ w.grownBy w' v.ownBlock ∧ Moved w v v' := by
  obtain ⟨i, hi, hzz⟩ := Option.map_eq_some_iff.1 hinfo
  simp only [Prod.mk.injEq] at hzz
  obtain ⟨hz, hsz, hb⟩ := hzz
  have hfl : fs.length = n * 2 := hown.1
  have hnews : ∀ (j : Nat) (u' : Value), [x, y][j]? = some u' → w.cell? (ad.add j) = some u' := by
    intro j u' hj
    match j, hj with
    | 0, hj => simp at hj; subst hj; simpa [Addr.add] using hxc
    | 1, hj => simp at hj; subst hj; exact hyc
  have hlen63 : n + 1 ≤ 9223372036854775807 := by simp only [maxLen] at hlen; omega
  have fresh : ∀ old, (w.drew.alloc (.cells (fs.toArray ++ [x, y].toArray ++ Builtin.zeroCells z.cells (grownCap w (n + 1) old E - (n + 1))) E)).ownsRow B E 2 (.slice (some ⟨w.heap.size, 0, none⟩) (n + 1) (grownCap w (n + 1) old E)) (n + 1) (fs ++ [x, y]) := by
    intro old
    have hge := grownCap_ge w (n + 1) old E
    refine ⟨by simp; omega, .inr ⟨w.heap.size, _, _, rfl, hbase, heap_alloc_new w.drew _, hge, grownCap_le_maxLen w (n + 1) old E hlen, ?_, ?_⟩⟩
    · simp only [Array.size_append, List.size_toArray, size_zeroCells, hz1, List.length_cons, List.length_nil]
      rw [hfl]
      show n * 2 + 2 + (grownCap w (n + 1) old E - (n + 1)) * 2 = _
      omega
    · simp only [Array.toList_append]
      rw [show (n + 1) * 2 = (fs ++ [x, y]).length by simp; omega]
      exact List.take_left
  have fgrown : ∀ (old : Nat) (row : Option Nat), w.grownBy (w.drew.alloc (.cells (fs.toArray ++ [x, y].toArray ++ Builtin.zeroCells z.cells (grownCap w (n + 1) old E - (n + 1))) E)) row :=
    fun old row => ⟨rfl, rfl, rfl, by simp, fun k hk _ => Below.heap_alloc w.drew _ k hk⟩
  rcases hown.2 with ⟨hv, hn⟩ | ⟨g, cap, cur, hv, hbg, hg, hnc, hcm, hcs, htake⟩
  · subst hv
    subst hn
    have hf : fs = [] := List.eq_nil_of_length_eq_zero (by omega)
    subst hf
    have hr := run_append_nil (P := P) w t ty E i z ht hi hz ad 1 c [x, y] (by simp [hsz]) hnews (by omega) (by omega) (by rw [hb]; omega)
    have h2 := fresh 0
    have h3 := fgrown 0 (Value.ownBlock (.slice none 0 0))
    simp only [List.nil_append, Array.empty_append] at h2 h3
    exact ⟨_, _, hr, h2, h3, .inr fun k hk => by simp [Value.ownBlock] at hk; omega⟩
  · subst hv
    by_cases hroom : n + 1 ≤ cap
    · have hr := run_append_room (P := P) w t ty E i ht hi g n cap cur hg ad 1 c [x, y] (by simp [hsz]) hnews (by intro u' hu'; simp at hu'; rcases hu' with rfl | rfl <;> assumption) hroom (by rw [hsz, hcs]; simp; omega)
      rw [hsz] at hr
      refine ⟨_, _, hr, ?_, ⟨rfl, rfl, rfl, by simp, fun k _ hk => setRow_other w g k _ (fun e => hk (by simp [Value.ownBlock, e]))⟩, .inl rfl⟩
      refine ⟨by simp; omega, .inr ⟨g, cap, _, rfl, hbg, setRow_heap w g cur _ E _ hg, hroom, hcm, ?_, ?_⟩⟩
      · simp only [List.size_toArray, List.length_append, List.length_take, List.length_drop, Array.length_toList, List.length_cons, List.length_nil]
        omega
      · rw [htake]
        show List.take ((n + 1) * 2) (fs ++ [x, y] ++ _) = _
        rw [show (n + 1) * 2 = (fs ++ [x, y]).length by simp; omega]
        exact List.take_left
    · have holds : ∀ (j : Nat) (u' : Value), fs[j]? = some u' → w.cell? ((⟨g, 0, none⟩ : Addr).add j) = some u' := World.ownsRow.cells hown (g := g) rfl
      have hr := run_append_grow (P := P) w t ty E i z ht hi hz ⟨g, 0, none⟩ n cap fs (by rw [hsz]; exact hfl) holds ad 1 c [x, y] (by simp [hsz]) hnews (by omega) (by omega) (by rw [hb]; exact growslice_fits (by omega) hbytes)
      exact ⟨_, _, hr, fresh cap, fgrown cap _, .inr fun k hk => by simp [Value.ownBlock] at hk; omega⟩

/-- 'out = append(out, x)' of one struct of two fields on a row of the call's own: x stands in a new block. -/
theorem wpList_append_two {P : Program} {w : World} {ops : Array Oper} {rest : List Oper} {o : Oper} {a : Act} {Q : Exit → Act → World → Prop} (hgd : o.guard = none) (s x : Operand) (t : TypeId)
    (ho : o.op = .call { callee := .builtin .append, args := #[s, x], argTypes := #[t, t] })
    (E : TypeId) (z : Value) (bytes : Nat) (ht : P.underlying t = some (.slice E)) (hinfo : (P.info? E).map (fun i => (i.zero, i.size, i.bytes)) = some (some z, 2, bytes)) (hz1 : z.cells.size = 2)
    (B : Nat) (v : Value) (n : Nat) (fs : List Value) (hs : a.eval s = v) (hown : Own2 w B E v n fs)
    (g : Nat) (u u' : Value) (hx : a.eval x = .slice (some ⟨g, 0, none⟩) 1 1) (hu : w.cell? ⟨g, 0, none⟩ = some u) (hu' : w.cell? ⟨g, 1, none⟩ = some u') (h1 : u.oneCell' = true) (h2 : u'.oneCell' = true)
    (hlen : n + 1 ≤ maxLen) (hbytes : (n + 1) * bytes ≤ 140737488355328)
    (W0 : World) (hB : W0.heap.size = B) (hext : Ext W0 w)
    (h : ∀ v' w', Own2 w' B E v' (n + 1) (fs ++ [u, u']) → Ext W0 w' → w.grownBy w' v.ownBlock ∧ Moved w v v' → wpList P ops Q rest (a.put o.dst v') w') : wpList P ops Q (o :: rest) a w := by
  obtain ⟨v', w', hr, h2, h3, h4⟩ := run_append_two (P := P) t o.type E z bytes ht hinfo hz1 B v n fs hown ⟨g, 0, none⟩ 1 u u' hu hu' h1 h2 hlen hbytes (by rw [← hB]; exact hext.size)
  refine wpList_plain hgd fun K hK' => ?_
  unfold Oper.wp execOp
  simp only [ho, resolve, invoke, builtin, Sem.run_bind, Sem.run_pure, Result.andThen_ok, List.map_toArray, List.map_cons, List.map_nil, hs, hx, hr]
  refine hK' _ _ (h v' w' h2 (hext.grown h3 fun k hk => ?_) ⟨h3, h4⟩)
  have := (World.ownsRow.lt hown k hk).1
  omega
end Go

/- Appends of many elements to a row of the call's own; the first part of a row. No dump is imported. -/
import Derived.Test.YtngbibaphakifaaDoorMat
namespace Go
open Go.RowKit

theorem Own.take {w : World} {B : Nat} {E : TypeId} {g n cap : Nat} {fs : List Value} (h : Own w B E (.slice (some ⟨g, 0, none⟩) n cap) fs) (k : Nat) (hk : k ≤ n) : Own w B E (.slice (some ⟨g, 0, none⟩) k cap) (fs.take k) := by
  have hn := h.len
  rcases h.2 with ⟨hv, _⟩ | ⟨g', cap', cur, hv, hb, hg, h1, h2, h3, h4⟩
  · cases hv
  · injection hv with e1 e2 e3
    injection e1 with e1
    injection e1 with e1
    subst e1
    subst e3
    have hl : (fs.take k).length = k := by rw [List.length_take]; omega
    refine ⟨by simp, .inr ⟨g, cap, cur, by rw [hl], hb, hg, by rw [hl]; omega, h2, h3, ?_⟩⟩
    rw [hl, ← h4, List.take_take]
    congr 1
    omega

/-- 'out = append(out, xs...)' on a row of the call's own. -/
theorem wpList_append_many {P : Program} {w : World} {ops : Array Oper} {rest : List Oper} {o : Oper} {a : Act} {Q : Exit → Act → World → Prop} (hgd : o.guard = none) (s x : Operand) (t : TypeId)
    (ho : o.op = .call { callee := .builtin .append, args := #[s, x], argTypes := #[t, t] })
    (E : TypeId) (z : Value) (bytes : Nat) (ht : P.underlying t = some (.slice E)) (hinfo : (P.info? E).map (fun i => (i.zero, i.size, i.bytes)) = some (some z, 1, bytes)) (hz1 : z.cells = #[z])
    (B : Nat) (v : Value) (fs : List Value) (hs : a.eval s = v) (hown : Own w B E v fs)
    (ad : Addr) (m c : Nat) (news : List Value) (hx : a.eval x = .slice (some ad) m c) (hl : news.length = m) (hnews : ∀ j u, news[j]? = some u → w.cell? (ad.add j) = some u) (h1 : ∀ u ∈ news, u.oneCell' = true)
    (hlen : fs.length + m ≤ maxLen) (hbytes : (fs.length + m) * bytes ≤ 140737488355328)
    (W0 : World) (hB : W0.heap.size ≤ B) (hBw : B ≤ w.heap.size) (hext : Ext W0 w)
    (h : ∀ v' w', Own w' B E v' (fs ++ news) → Ext W0 w' → w.grownBy w' v.ownBlock → (v' = .slice none 0 0 ↔ v = .slice none 0 0 ∧ m = 0) → wpList P ops Q rest (a.put o.dst v') w') : wpList P ops Q (o :: rest) a w := by
  obtain ⟨i, hi, hzz⟩ := Option.map_eq_some_iff.1 hinfo
  simp only [Prod.mk.injEq] at hzz
  obtain ⟨hz, hsz, hb⟩ := hzz
  obtain ⟨v', w', hr, h2, h3, h4⟩ := run_append_own (P := P) w B t o.type E i z 1 bytes ht hi hz hsz hb (by rw [hz1]; rfl) (by omega) v fs.length fs hown ad m c news (by omega) hnews h1 hlen hbytes hBw
  refine wpList_plain hgd fun K hK' => ?_
  unfold Oper.wp execOp
  simp only [ho, resolve, invoke, builtin, Sem.run_bind, Sem.run_pure, Result.andThen_ok, List.map_toArray, List.map_cons, List.map_nil, hs, hx, hr]
  refine hK' _ _ (h v' w' ?_ (hext.grown h3 fun k hk => ?_) h3 h4)
  · unfold Own
    rw [List.length_append, hl]
    exact h2
  · have := (World.ownsRow.lt hown k hk).1
    omega

/-- 'append([]T{}, xs...)': nothing that was there turns -/
theorem run_append_lit {P : Program} {w : World} (t ty E : TypeId) (z : Value) (bytes : Nat) (ht : P.underlying t = some (.slice E)) (hinfo : (P.info? E).map (fun i => (i.zero, i.size, i.bytes)) = some (some z, 1, bytes)) (hz1 : z.cells = #[z])
    (B g : Nat) (hown : Own w B E (.slice (some ⟨g, 0, none⟩) 0 0) []) (ad : Addr) (m c : Nat) (news : List Value) (hl : news.length = m) (hnews : ∀ j u, news[j]? = some u → w.cell? (ad.add j) = some u) 
    (hlen : m ≤ maxLen) (hbytes : m * bytes ≤ 140737488355328) (hbase : B ≤ w.heap.size) :
    ∃ g' c' w', (Builtin.append_ #[t, t] ty #[.slice (some ⟨g, 0, none⟩) 0 0, .slice (some ad) m c]).run P w = .ok (.slice (some ⟨g', 0, none⟩) m c') w' ∧ Own w' B E (.slice (some ⟨g', 0, none⟩) m c') news ∧ Ext w w' := by
  obtain ⟨i, hi, hzz⟩ := Option.map_eq_some_iff.1 hinfo
  simp only [Prod.mk.injEq] at hzz
  obtain ⟨hz, hsz, hb⟩ := hzz
  rcases Nat.eq_zero_or_pos m with h0 | h0
  · subst h0
    have hn : news = [] := List.eq_nil_of_length_eq_zero hl
    subst hn
    refine ⟨g, 0, w, ?_, hown, Ext.refl _⟩
    simp [Builtin.append_, run_underlying ht, sizeOf, typeInfo, hi, Builtin.lenOf, Builtin.firstCells, storeCells, loadCells, loadCellsFrom]
  · have hlen63 : (m : Int) ≤ 9223372036854775807 := by simp only [maxLen] at hlen; omega
    have hr := run_append_grow (P := P) w t ty E i z ht hi hz ⟨g, 0, none⟩ 0 0 [] (by simp) (by intro j u hj; simp at hj) ad m c news (by rw [hsz]; omega) hnews (by omega) (by simpa using hlen63) (by rw [hb]; exact growslice_fits (by omega) (by simpa using hbytes))
    rw [Nat.zero_add] at hr
    refine ⟨_, _, _, hr, ?_, (Ext.drew w).trans (Ext.alloc _ _)⟩
    have hge := grownCap_ge w m 0 E
    unfold Own
    rw [hl]
    refine ⟨by simp; omega, .inr ⟨w.heap.size, _, _, rfl, hbase, heap_alloc_new w.drew _, hge, grownCap_le_maxLen w m 0 E hlen, ?_, ?_⟩⟩
    · simp only [Array.size_append, List.size_toArray, size_zeroCells, hz1, List.length_nil]
      rw [hl]
      show 0 + m + (grownCap w m 0 E - m) * 1 = _
      omega
    · simp only [Array.toList_append, Nat.mul_one, List.nil_append]
      rw [← hl]
      exact List.take_left

theorem icells_one (xs : List Int) : ∀ u ∈ icells xs, u.oneCell' = true := by
  intro u hu
  simp only [icells, List.mem_map] at hu
  obtain ⟨x, _, rfl⟩ := hu
  rfl
theorem ReadsI.news_drop {w : World} {b o n c : Nat} {xs : List Int} (h : ReadsI w (.slice (some ⟨b, o, none⟩) n c) xs) (k : Nat) : ∀ (q : Nat) (u : Value), (icells (xs.drop k))[q]? = some u → w.cell? ((⟨b, o + k, none⟩ : Addr).add q) = some u := by
  intro q u hq
  have hl := (List.getElem?_eq_some_iff.1 hq).1
  rw [icells_length, List.length_drop] at hl
  obtain ⟨b', o', hb, hc⟩ := h.at (k + q) (by omega)
  injection hb with hb
  injection hb with h1 h2
  subst h1; subst h2
  have e : u = .int .i64 (xs.getD (k + q) 0) := by
    simp only [icells, List.getElem?_map, List.getElem?_drop] at hq
    rw [List.getElem?_eq_getElem (by omega)] at hq
    simp at hq
    rw [← hq, List.getD_eq_getElem?_getD, List.getElem?_eq_getElem (by omega)]
    rfl
  rw [e, ← hc]
  congr 1
  simp [Addr.add, Nat.add_assoc]
theorem ReadsI.news_take {w : World} {b o n c : Nat} {xs : List Int} (h : ReadsI w (.slice (some ⟨b, o, none⟩) n c) xs) (k : Nat) : ∀ (q : Nat) (u : Value), (icells (xs.take k))[q]? = some u → w.cell? ((⟨b, o, none⟩ : Addr).add q) = some u := by
  intro q u hq
  have hl := (List.getElem?_eq_some_iff.1 hq).1
  rw [icells_length, List.length_take] at hl
  refine h.news_drop 0 q u ?_
  rw [List.drop_zero]
  simp only [icells, List.getElem?_map, List.getElem?_take] at hq ⊢
  rw [if_pos (by omega)] at hq
  exact hq
/-- a row of the call's own, where it stands -/
def LitJ (B : Nat) (E : TypeId) (n : Nat) (fs : List Value) (u : Value) (w : World) : Prop := ∃ g c, u = .slice (some ⟨g, 0, none⟩) n c ∧ Own w B E u fs
theorem LitJ.ok (B : Nat) (E : TypeId) (n : Nat) (fs : List Value) : ∀ u w w', Ext w w' → LitJ B E n fs u w → LitJ B E n fs u w' := fun _ _ _ hx ⟨g, c, h1, h2⟩ => ⟨g, c, h1, h2.ext hx⟩
/-- an empty one, with no room -/
def NilJ (B : Nat) (E : TypeId) (u : Value) (w : World) : Prop := ∃ g, u = .slice (some ⟨g, 0, none⟩) 0 0 ∧ Own w B E u []
theorem NilJ.ok (B : Nat) (E : TypeId) : ∀ u w w', Ext w w' → NilJ B E u w → NilJ B E u w' := fun _ _ _ hx ⟨g, h1, h2⟩ => ⟨g, h1, h2.ext hx⟩
theorem NilJ.new {B : Nat} {w : World} {E : TypeId} (hB : B ≤ w.heap.size) : Ext w (w.alloc (.cells #[] E)) ∧ NilJ B E (.slice (some ⟨w.heap.size, 0, none⟩) 0 0) (w.alloc (.cells #[] E)) :=
  ⟨Ext.alloc _ _, w.heap.size, rfl, (Own.lit w E [] (by simp)).mono hB⟩
end Go

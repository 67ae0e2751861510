/- Appends of whatever row, nil or not, to a row of the call's own, nil or not. No dump is imported. -/
import Derived.Test.YtfiembmfkokllaaGreatPkF
import Derived.Deep.AppendSrc
import Derived.Lib.AppendZeros
namespace Go
open Go.RowKit

theorem add_eq' (g o q : Nat) : (⟨g, o, none⟩ : Addr).add q = ⟨g, o + q, none⟩ := by
  unfold Addr.add
  split
  · next h => rw [h]; simp
  · rfl
theorem reads_cases {w : World} {x : Value} {news : List Value} (hx : Reads w x news) : (∃ c, x = .slice none 0 c ∧ news = []) ∨ (∃ ad c, x = .slice (some ad) news.length c ∧ ∀ j u, news[j]? = some u → w.cell? (ad.add j) = some u) := by
  obtain ⟨a, c, rfl, h1, h2, h3⟩ := hx
  cases a with
  | none =>
    by_cases h0 : news.length = 0
    · exact .inl ⟨c, by rw [h0], List.eq_nil_of_length_eq_zero h0⟩
    · obtain ⟨b, o, he, _⟩ := h3 0 (by omega)
      cases he
  | some ad =>
    refine .inr ⟨ad, c, rfl, fun j u hj => ?_⟩
    obtain ⟨hl, he⟩ := List.getElem?_eq_some_iff.1 hj
    obtain ⟨b, o, e, hc⟩ := h3 j hl
    cases e
    rw [add_eq', hc, he]
theorem run_append_reads {P : Program} {w : World} (t ty E : TypeId) (z : Value) (bytes : Nat) (ht : P.underlying t = some (.slice E)) (hinfo : (P.info? E).map (fun i => (i.zero, i.size, i.bytes)) = some (some z, 1, bytes)) (hz1 : z.cells = #[z])
    (B : Nat) (v : Value) (fs : List Value) (hown : Own w B E v fs) (x : Value) (news : List Value) (hx : Reads w x news) (h1 : ∀ u ∈ news, u.oneCell' = true)
    (hlen : fs.length + news.length ≤ maxLen) (hbytes : (fs.length + news.length) * bytes ≤ 140737488355328) (hbase : B ≤ w.heap.size) :
    ∃ v' w', (Builtin.append_ #[t, t] ty #[v, x]).run P w = .ok v' w' ∧ Own w' B E v' (fs ++ news) ∧ w.grownBy w' v.ownBlock ∧ Moved w v v' := by
  obtain ⟨i, hi, hzz⟩ := Option.map_eq_some_iff.1 hinfo
  simp only [Prod.mk.injEq] at hzz
  obtain ⟨hz, hsz, hb⟩ := hzz
  rcases hown.shape with ⟨rfl, rfl⟩ | ⟨g, cap, rfl, hbg, hgw, hnc, hcm⟩
  · rcases reads_cases hx with ⟨c, rfl, rfl⟩ | ⟨ad, c, rfl, hnews⟩
    · refine ⟨.slice none 0 0, w, ?_, by rw [List.append_nil]; exact hown, GB.refl _ _, .inl rfl⟩
      simp [Builtin.append_, run_underlying ht, sizeOf, typeInfo, hi, Builtin.lenOf, run_firstCells_none]
    · cases hn : news.length with
      | zero =>
        have : news = [] := List.eq_nil_of_length_eq_zero hn
        subst this
        refine ⟨.slice none 0 0, w, ?_, by rw [List.append_nil]; exact hown, GB.refl _ _, .inl rfl⟩
        have hf := run_firstCells_some (P := P) w i.size 0 ad 0 c [] (by simp) (fun j u hj => by simp at hj)
        simp [Builtin.append_, run_underlying ht, sizeOf, typeInfo, hi, Builtin.lenOf, hf]
      | succ m =>
        have hr := run_append_nil (P := P) w t ty E i z ht hi hz ad (m + 1) c news (by rw [hsz, hn]; omega) hnews (by omega) (by rw [hn] at hlen; unfold maxLen at hlen; simp at hlen; omega) (by rw [hb]; rw [hn] at hbytes; simp only [List.length_nil, Nat.zero_add] at hbytes; omega)
        have hge := grownCap_ge w (m + 1) 0 E
        have hle := grownCap_le_maxLen w (m + 1) 0 E (by rw [hn] at hlen; simpa using hlen)
        refine ⟨_, _, hr, ?_, ⟨rfl, rfl, rfl, by simp, fun k hk _ => Below.heap_alloc w.drew _ k hk⟩, .inr fun k hk => by simp [Value.ownBlock] at hk; omega⟩
        unfold Own
        rw [List.nil_append, hn]
        refine ⟨by rw [hn, Nat.mul_one], .inr ⟨w.heap.size, _, _, rfl, hbase, heap_alloc_new w.drew _, hge, hle, ?_, ?_⟩⟩
        · simp only [Array.size_append, List.size_toArray, size_zeroCells, hz1, hn]
          show m + 1 + (grownCap w (m + 1) 0 E - (m + 1)) * 1 = _
          omega
        · simp only [Array.toList_append, Nat.mul_one]
          rw [← hn]
          exact List.take_left
  · rcases reads_cases hx with ⟨c, rfl, rfl⟩ | ⟨ad, c, rfl, hnews⟩
    · have hr := run_append_room_src (P := P) w t t ty E i ht hi g 0 fs.length cap (.slice none 0 c) 0 [] (Src.ofNil w ht c) (by omega) (fun j hj => by simp at hj) (fun j hj => by simp at hj)
      refine ⟨_, _, hr, ?_, ?_, .inl rfl⟩
      · rw [List.append_nil]; exact hown
      · exact GB.refl _ _
    · obtain ⟨g', c', w', hr, h2, h3, h4⟩ := run_append_news (P := P) t ty E z bytes ht hinfo hz1 B g fs.length cap fs hown ad news.length c news rfl hnews h1 hlen hbytes hbase
      refine ⟨_, w', hr, h2, h3, ?_⟩
      rcases h4 with h | h
      · left; rw [h]; rfl
      · right
        intro k hk
        simp [Value.ownBlock] at hk
        omega

/-- 'out = append(out, xs...)' on a row of the call's own, both whatever. -/
theorem wpList_append_reads {P : Program} {w : World} {ops : Array Oper} {rest : List Oper} {o : Oper} {a : Act} {Q : Exit → Act → World → Prop} (hgd : o.guard = none) (s x : Operand) (t : TypeId)
    (ho : o.op = .call { callee := .builtin .append, args := #[s, x], argTypes := #[t, t] })
    (E : TypeId) (z : Value) (bytes : Nat) (ht : P.underlying t = some (.slice E)) (hinfo : (P.info? E).map (fun i => (i.zero, i.size, i.bytes)) = some (some z, 1, bytes)) (hz1 : z.cells = #[z])
    (B : Nat) (v : Value) (fs : List Value) (hs : a.eval s = v) (hown : Own w B E v fs)
    (xv : Value) (news : List Value) (hx : a.eval x = xv) (hr : Reads w xv news) (h1 : ∀ u ∈ news, u.oneCell' = true)
    (hlen : fs.length + news.length ≤ maxLen) (hbytes : (fs.length + news.length) * bytes ≤ 140737488355328)
    (hBw : B ≤ w.heap.size)
    (h : ∀ v' w', Own w' B E v' (fs ++ news) → w.grownBy w' v.ownBlock → Moved w v v' → wpList P ops Q rest (a.put o.dst v') w') : wpList P ops Q (o :: rest) a w := by
  obtain ⟨v', w', hr, h2, h3, h4⟩ := run_append_reads (P := P) t o.type E z bytes ht hinfo hz1 B v fs hown xv news hr h1 hlen hbytes hBw
  refine wpList_plain hgd fun K hK' => ?_
  unfold Oper.wp execOp
  simp only [ho, resolve, invoke, builtin, Sem.run_bind, Sem.run_pure, Result.andThen_ok, List.map_toArray, List.map_cons, List.map_nil, hs, hx, hr]
  exact hK' _ _ (h v' w' h2 h3 h4)

/-- an append whose run is known -/
theorem wpList_append_known {P : Program} {w : World} {ops : Array Oper} {rest : List Oper} {o : Oper} {a : Act} {Q : Exit → Act → World → Prop} (hgd : o.guard = none) (s x : Operand) (t tn : TypeId)
    (ho : o.op = .call { callee := .builtin .append, args := #[s, x], argTypes := #[t, tn] }) (vs vx : Value) (hs : a.eval s = vs) (hx : a.eval x = vx)
    (v' : Value) (w' : World) (hr : (Builtin.append_ #[t, tn] o.type #[vs, vx]).run P w = .ok v' w')
    (h : wpList P ops Q rest (a.put o.dst v') w') : wpList P ops Q (o :: rest) a w := by
  refine wpList_plain hgd fun K hK' => ?_
  unfold Oper.wp execOp
  simp only [ho, resolve, invoke, builtin, Sem.run_bind, Sem.run_pure, Result.andThen_ok, List.map_toArray, List.map_cons, List.map_nil, hs, hx, hr]
  exact hK' _ _ h
/-- 'append([]T{}, xs...)': a new row -/
theorem run_append_fresh {P : Program} {w : World} (t ty E : TypeId) (z : Value) (bytes : Nat) (ht : P.underlying t = some (.slice E)) (hinfo : (P.info? E).map (fun i => (i.zero, i.size, i.bytes)) = some (some z, 1, bytes)) (hz1 : z.cells = #[z])
    (B g : Nat) (hown : Own w B E (.slice (some ⟨g, 0, none⟩) 0 0) []) (x : Value) (news : List Value) (hx : Reads w x news)
    (hlen : news.length ≤ maxLen) (hbytes : news.length * bytes ≤ 140737488355328) (hbase : B ≤ w.heap.size) :
    ∃ g' c' w', (Builtin.append_ #[t, t] ty #[.slice (some ⟨g, 0, none⟩) 0 0, x]).run P w = .ok (.slice (some ⟨g', 0, none⟩) news.length c') w' ∧ Own w' B E (.slice (some ⟨g', 0, none⟩) news.length c') news ∧ Ext w w' := by
  obtain ⟨i, hi, hzz⟩ := Option.map_eq_some_iff.1 hinfo
  simp only [Prod.mk.injEq] at hzz
  obtain ⟨hz, hsz, hb⟩ := hzz
  rcases reads_cases hx with ⟨c, rfl, rfl⟩ | ⟨ad, c, rfl, hnews⟩
  · exact ⟨g, 0, _, run_append_room_src (P := P) w t t ty E i ht hi g 0 0 0 (.slice none 0 c) 0 [] (Src.ofNil w ht c) (by omega) (fun j hj => by simp at hj) (fun j hj => by simp at hj), hown, Ext.refl _⟩
  · cases hn : news.length with
    | zero =>
      have : news = [] := List.eq_nil_of_length_eq_zero hn
      subst this
      exact ⟨g, 0, _, run_append_room_src (P := P) w t t ty E i ht hi g 0 0 0 (.slice (some ad) 0 c) 0 [] (Src.ofSlice w ht ad 0 c [] (by simp) (fun j u hj => by simp at hj) (fun _ h => by cases h)) (by omega) (fun j hj => by simp at hj) (fun j hj => by simp at hj), hown, Ext.refl _⟩
    | succ m =>
      have hr := run_append_grow (P := P) w t ty E i z ht hi hz ⟨g, 0, none⟩ 0 0 [] (by simp) (fun j u hj => by simp at hj) ad (m + 1) c news (by rw [hsz, hn]; omega) hnews (by omega) (by rw [hn] at hlen; unfold maxLen at hlen; omega) (by rw [hb]; rw [hn] at hbytes; rw [Nat.zero_add]; exact growslice_fits (by omega) hbytes)
      rw [Nat.zero_add] at hr
      have hge := grownCap_ge w (m + 1) 0 E
      have hle := grownCap_le_maxLen w (m + 1) 0 E (by rw [hn] at hlen; exact hlen)
      refine ⟨_, _, _, hr, ?_, (Ext.refl w).grown (row := none) ⟨rfl, rfl, rfl, by simp, fun k hk _ => Below.heap_alloc w.drew _ k hk⟩ (fun k hk => by cases hk)⟩
      unfold Own
      rw [hn]
      refine ⟨by rw [hn, Nat.mul_one], .inr ⟨w.heap.size, _, _, rfl, hbase, heap_alloc_new w.drew _, hge, hle, ?_, ?_⟩⟩
      · simp only [Array.size_append, List.size_toArray, size_zeroCells, hz1, hn]
        show 0 + (m + 1) + (grownCap w (m + 1) 0 E - (m + 1)) * 1 = _
        omega
      · simp only [Array.toList_append, Nat.mul_one, List.nil_append]
        rw [← hn]
        exact List.take_left
/-- an empty row with an address; a row with an address -/
def EmptyRow (B : Nat) (E : TypeId) (v : Value) (w : World) : Prop := ∃ g, v = .slice (some ⟨g, 0, none⟩) 0 0 ∧ Own w B E (.slice (some ⟨g, 0, none⟩) 0 0) []
theorem EmptyRow.ok (B : Nat) (E : TypeId) : ∀ v w w', Ext w w' → EmptyRow B E v w → EmptyRow B E v w' := fun _ _ _ hx ⟨g, h1, h2⟩ => ⟨g, h1, h2.ext hx⟩
theorem EmptyRow.new {B : Nat} {E : TypeId} {w : World} (hB : B ≤ w.heap.size) : Ext w (w.alloc (.cells #[] E)) ∧ EmptyRow B E (.slice (some ⟨w.heap.size, 0, none⟩) 0 0) (w.alloc (.cells #[] E)) :=
  ⟨Ext.alloc _ _, w.heap.size, rfl, (Own.lit w E [] (by simp)).mono hB⟩
def FullRow (B : Nat) (E : TypeId) (fs : List Value) (v : Value) (w : World) : Prop := ∃ g c, v = .slice (some ⟨g, 0, none⟩) fs.length c ∧ Own w B E (.slice (some ⟨g, 0, none⟩) fs.length c) fs
theorem FullRow.ok (B : Nat) (E : TypeId) (fs : List Value) : ∀ v w w', Ext w w' → FullRow B E fs v w → FullRow B E fs v w' := fun _ _ _ hx ⟨g, c, h1, h2⟩ => ⟨g, c, h1, h2.ext hx⟩
theorem by_if {c : Prop} [Decidable c] {a b : Prop} (hc : c) (h : a) : if c then a else b := by rw [if_pos hc]; exact h
/-- .. as an operation of a region -/
theorem leaves_append_fresh {P : Program} {w : World} {o : Oper} {f : Operand → Value} (s x : Operand) (t : TypeId)
    (ho : o.op = .call { callee := .builtin .append, args := #[s, x], argTypes := #[t, t] })
    (E : TypeId) (z : Value) (bytes : Nat) (ht : P.underlying t = some (.slice E)) (hinfo : (P.info? E).map (fun i => (i.zero, i.size, i.bytes)) = some (some z, 1, bytes)) (hz1 : z.cells = #[z])
    (B : Nat) (hs : EmptyRow B E (f s) w) (xv : Value) (hx : f x = xv) (news : List Value) (hr : Reads w xv news) (hlen : news.length ≤ maxLen) (hbytes : news.length * bytes ≤ 140737488355328) (hbase : B ≤ w.heap.size) :
    Oper.leaves P (FullRow B E news) w ((execOp f o).run P w) := by
  obtain ⟨g, e, hown⟩ := hs
  obtain ⟨g', c', w', hr, h2, h3⟩ := run_append_fresh (P := P) t o.type E z bytes ht hinfo hz1 B g hown xv news hr hlen hbytes hbase
  unfold execOp
  simp only [ho, resolve, invoke, builtin, Sem.run_bind, Sem.run_pure, Result.andThen_ok, List.map_toArray, List.map_cons, List.map_nil, e, hx, hr]
  exact ⟨h3, g', c', rfl, h2⟩

/-- 'append([]T(nil), make([]T, n)...)[:0]': an empty row with room -/
theorem own_room {w : World} {E : TypeId} {z : Value} (hz1 : z.cells = #[z]) (n : Nat) (hn : n ≤ maxLen) :
    Own (w.drew.alloc (.cells (Builtin.zeroCells z.cells n ++ Builtin.zeroCells z.cells (grownCap w n 0 E - n)) E)) w.heap.size E (.slice (some ⟨w.heap.size, 0, none⟩) 0 (grownCap w n 0 E)) [] := by
  have hge := grownCap_ge w n 0 E
  have hle := grownCap_le_maxLen w n 0 E hn
  refine ⟨rfl, .inr ⟨w.heap.size, _, _, rfl, Nat.le_refl _, heap_alloc_new w.drew _, Nat.zero_le _, hle, ?_, by simp⟩⟩
  simp only [Array.size_append, size_zeroCells, hz1]
  show n * 1 + (grownCap w n 0 E - n) * 1 = _
  omega
theorem ext_room {w : World} {E : TypeId} {cs : Array Value} : Ext w (w.drew.alloc (.cells cs E)) := (Ext.refl w).grown (row := none) ⟨rfl, rfl, rfl, by simp, fun k hk _ => Below.heap_alloc w.drew _ k hk⟩ (fun k hk => by cases hk)
end Go

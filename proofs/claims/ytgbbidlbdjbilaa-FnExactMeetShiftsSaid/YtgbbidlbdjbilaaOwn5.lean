/- Appends of many elements to a row of the call's own: where it lies afterwards. No dump is imported. -/
import Derived.Test.YtgbbidlbdjbilaaPkA
namespace Go
open Go.RowKit

theorem run_append_news {P : Program} {w : World} (t ty E : TypeId) (z : Value) (bytes : Nat) (ht : P.underlying t = some (.slice E)) (hinfo : (P.info? E).map (fun i => (i.zero, i.size, i.bytes)) = some (some z, 1, bytes)) (hz1 : z.cells = #[z])
    (B g n cap : Nat) (fs : List Value) (hown : Own w B E (.slice (some ⟨g, 0, none⟩) n cap) fs) (ad : Addr) (m c : Nat) (news : List Value) (hl : news.length = m) (hnews : ∀ j u, news[j]? = some u → w.cell? (ad.add j) = some u) (h1 : ∀ u ∈ news, u.oneCell' = true)
    (hlen : fs.length + m ≤ maxLen) (hbytes : (fs.length + m) * bytes ≤ 140737488355328) (hbase : B ≤ w.heap.size) :
    ∃ g' c' w', (Builtin.append_ #[t, t] ty #[.slice (some ⟨g, 0, none⟩) n cap, .slice (some ad) m c]).run P w = .ok (.slice (some ⟨g', 0, none⟩) (n + m) c') w' ∧ Own w' B E (.slice (some ⟨g', 0, none⟩) (n + m) c') (fs ++ news) ∧ w.grownBy w' (some g) ∧ (g' = g ∨ w.heap.size ≤ g') := by
  obtain ⟨i, hi, hzz⟩ := Option.map_eq_some_iff.1 hinfo
  simp only [Prod.mk.injEq] at hzz
  obtain ⟨hz, hsz, hb⟩ := hzz
  have hn := hown.len
  subst hn
  have hlen63 : fs.length + m ≤ 9223372036854775807 := by simp only [maxLen] at hlen; omega
  rcases hown.2 with ⟨hv, _⟩ | ⟨g', cap', cur, hv, hbg, hg, hnc, hcm, hcs, htake⟩
  · cases hv
  · injection hv with e1 e2 e3
    injection e1 with e1
    injection e1 with e1
    subst e1
    subst e3
    by_cases hroom : fs.length + m ≤ cap
    · have hr := run_append_room (P := P) w t ty E i ht hi g fs.length cap cur hg ad m c news (by rw [hsz, hl]; omega) hnews h1 hroom (by rw [hsz, hcs]; simp; omega)
      rw [hsz] at hr
      refine ⟨_, _, _, hr, ?_, ⟨rfl, rfl, rfl, by simp, fun k _ hk => setRow_other w g k _ (fun e => hk (by rw [e]))⟩, .inl rfl⟩
      unfold Own
      rw [List.length_append, hl]
      refine ⟨by rw [List.length_append, hl]; omega, .inr ⟨g, cap, _, rfl, hbg, setRow_heap w g cur _ E _ hg, hroom, hcm, ?_, ?_⟩⟩
      · simp only [List.size_toArray, List.length_append, List.length_take, List.length_drop, Array.length_toList]
        omega
      · rw [htake]
        show List.take ((fs.length + m) * 1) (fs ++ news ++ _) = _
        rw [show (fs.length + m) * 1 = (fs ++ news).length by rw [List.length_append, hl]; omega]
        exact List.take_left
    · have holds : ∀ (j : Nat) (u' : Value), fs[j]? = some u' → w.cell? ((⟨g, 0, none⟩ : Addr).add j) = some u' := hown.cells (g := g) rfl
      have hr := run_append_grow (P := P) w t ty E i z ht hi hz ⟨g, 0, none⟩ fs.length cap fs (by simp [hsz]) holds ad m c news (by rw [hsz, hl]; omega) hnews (by omega) (by omega) (by rw [hb]; exact growslice_fits (by omega) hbytes)
      refine ⟨_, _, _, hr, ?_, ⟨rfl, rfl, rfl, by simp, fun k hk _ => Below.heap_alloc w.drew _ k hk⟩, .inr (Nat.le_refl _)⟩
      have hge := grownCap_ge w (fs.length + m) cap E
      unfold Own
      rw [List.length_append, hl]
      refine ⟨by rw [List.length_append, hl]; omega, .inr ⟨w.heap.size, _, _, rfl, hbase, heap_alloc_new w.drew _, hge, grownCap_le_maxLen w (fs.length + m) cap E hlen, ?_, ?_⟩⟩
      · simp only [Array.size_append, List.size_toArray, size_zeroCells, hz1]
        show fs.length + news.length + (grownCap w (fs.length + m) cap E - (fs.length + m)) * 1 = _
        omega
      · simp only [Array.toList_append, Nat.mul_one]
        rw [show fs.length + m = (fs ++ news).length by rw [List.length_append, hl]]
        exact List.take_left

/-- 'out = append(out, xs...)' on a row of the call's own that has a block. -/
theorem wpList_append_news {P : Program} {w : World} {ops : Array Oper} {rest : List Oper} {o : Oper} {a : Act} {Q : Exit → Act → World → Prop} (hgd : o.guard = none) (s x : Operand) (t : TypeId)
    (ho : o.op = .call { callee := .builtin .append, args := #[s, x], argTypes := #[t, t] })
    (E : TypeId) (z : Value) (bytes : Nat) (ht : P.underlying t = some (.slice E)) (hinfo : (P.info? E).map (fun i => (i.zero, i.size, i.bytes)) = some (some z, 1, bytes)) (hz1 : z.cells = #[z])
    (B g n cap : Nat) (fs : List Value) (hs : a.eval s = .slice (some ⟨g, 0, none⟩) n cap) (hown : Own w B E (.slice (some ⟨g, 0, none⟩) n cap) fs)
    (ad : Addr) (m c : Nat) (news : List Value) (hx : a.eval x = .slice (some ad) m c) (hl : news.length = m) (hnews : ∀ j u, news[j]? = some u → w.cell? (ad.add j) = some u) (h1 : ∀ u ∈ news, u.oneCell' = true)
    (hlen : fs.length + m ≤ maxLen) (hbytes : (fs.length + m) * bytes ≤ 140737488355328)
    (hBw : B ≤ w.heap.size)
    (h : ∀ g' c' w', Own w' B E (.slice (some ⟨g', 0, none⟩) (n + m) c') (fs ++ news) → w.grownBy w' (some g) → (g' = g ∨ w.heap.size ≤ g') → wpList P ops Q rest (a.put o.dst (.slice (some ⟨g', 0, none⟩) (n + m) c')) w') : wpList P ops Q (o :: rest) a w := by
  obtain ⟨g', c', w', hr, h2, h3, h4⟩ := run_append_news (P := P) t o.type E z bytes ht hinfo hz1 B g n cap fs hown ad m c news hl hnews h1 hlen hbytes hBw
  refine wpList_plain hgd fun K hK' => ?_
  unfold Oper.wp execOp
  simp only [ho, resolve, invoke, builtin, Sem.run_bind, Sem.run_pure, Result.andThen_ok, List.map_toArray, List.map_cons, List.map_nil, hs, hx, hr]
  exact hK' _ _ (h g' c' w' h2 h3 h4)
end Go

/- Rows of three-cell elements (arcs) that a call itself makes. No dump is imported. -/
import Derived.Test.YtjfgbnihnnlneaaOwn
import Derived.Laws.MakeOwn
namespace Go
open Go.RowKit

def arcCells : List (Int × Int × Int) → List Value
  | [] => []
  | a :: as => .int .i64 a.1 :: .int .i64 a.2.1 :: .int .i64 a.2.2 :: arcCells as
theorem arcCells_length : ∀ as, (arcCells as).length = as.length * 3
  | [] => rfl
  | a :: as => by simp [arcCells, arcCells_length as]; omega
theorem arcCells_at : ∀ (as : List (Int × Int × Int)) (i : Nat) (h : i < as.length), (arcCells as)[i * 3]? = some (.int .i64 as[i].1) ∧ (arcCells as)[i * 3 + 1]? = some (.int .i64 as[i].2.1) ∧ (arcCells as)[i * 3 + 2]? = some (.int .i64 as[i].2.2)
  | a :: as, 0, _ => ⟨rfl, rfl, rfl⟩
  | a :: as, i + 1, h => by
    have := arcCells_at as i (by simpa using h)
    have e : ∀ k, (i + 1) * 3 + k = (i * 3 + k) + 3 := by intro k; omega
    have e0 : (i + 1) * 3 = i * 3 + 3 := by omega
    rw [e 1, e 2, e0]
    simpa [arcCells] using this
theorem arcCells_set : ∀ (as : List (Int × Int × Int)) (i : Nat) (_ : i < as.length) (x : Int × Int × Int), (((arcCells as).set (i * 3) (.int .i64 x.1)).set (i * 3 + 1) (.int .i64 x.2.1)).set (i * 3 + 2) (.int .i64 x.2.2) = arcCells (as.set i x)
  | a :: as, 0, _, x => by simp [arcCells]
  | a :: as, i + 1, h, x => by
    have ih := arcCells_set as i (by simpa using h) x
    have e : ∀ k, (i + 1) * 3 + k = (i * 3 + k) + 3 := by intro k; omega
    have e0 : (i + 1) * 3 = i * 3 + 3 := by omega
    rw [e 1, e 2, e0]
    simp only [arcCells, List.set_cons_succ]
    rw [ih]
theorem arcCells_replicate : ∀ n, arcCells (List.replicate n (0, 0, 0)) = List.replicate (n * 3) (.int .i64 0)
  | 0 => rfl
  | n + 1 => by
    rw [show (n + 1) * 3 = n * 3 + 3 by omega, List.replicate_succ, arcCells, arcCells_replicate n]
    rfl

/-- a row of arcs of the call's own -/
def OwnA (w : World) (B : Nat) (E : TypeId) (v : Value) (as : List (Int × Int × Int)) : Prop := w.ownsRow B E 3 v as.length (arcCells as)
section
variable {w w' : World} {B : Nat} {E : TypeId} {v : Value} {as : List (Int × Int × Int)}
theorem OwnA.shape (h : OwnA w B E v as) : (v = .slice none 0 0 ∧ as = []) ∨ ∃ g cap, v = .slice (some ⟨g, 0, none⟩) as.length cap ∧ B ≤ g ∧ g < w.heap.size ∧ as.length ≤ cap ∧ cap ≤ maxLen := by
  rcases h.2 with ⟨hv, hn⟩ | ⟨g, cap, cur, hv, hb, hg, h1, h2, _⟩
  · exact .inl ⟨hv, List.eq_nil_of_length_eq_zero hn⟩
  · exact .inr ⟨g, cap, hv, hb, (Array.getElem?_eq_some_iff.1 hg).1, h1, h2⟩
theorem OwnA.ext (h : OwnA w B E v as) (hx : Ext w w') : OwnA w' B E v as := by
  refine ⟨h.1, ?_⟩
  rcases h.2 with hn | ⟨g, cap, cur, hv, hb, hg, rest⟩
  · exact .inl hn
  · exact .inr ⟨g, cap, cur, hv, hb, by rw [Below.block hx g (Array.getElem?_eq_some_iff.1 hg).1]; exact hg, rest⟩
theorem OwnA.cellAt {g n cap : Nat} (h : OwnA w B E (.slice (some ⟨g, 0, none⟩) n cap) as) (i : Nat) (hi : i < as.length) :
    w.cell? ⟨g, i * 3, none⟩ = some (.int .i64 as[i].1) ∧ w.cell? ⟨g, i * 3 + 1, none⟩ = some (.int .i64 as[i].2.1) ∧ w.cell? ⟨g, i * 3 + 2, none⟩ = some (.int .i64 as[i].2.2) := by
  rcases h.shape with ⟨hv, _⟩ | ⟨g', cap', hv, _⟩
  · cases hv
  · injection hv with h1 h2 h3
    subst h2
    obtain ⟨k0, k1, k2⟩ := arcCells_at as i hi
    exact ⟨(World.ownsRow.cellAt h (i * 3) (by omega)).trans k0, (World.ownsRow.cellAt h (i * 3 + 1) (by omega)).trans k1, (World.ownsRow.cellAt h (i * 3 + 2) (by omega)).trans k2⟩
theorem OwnA.frozen {g n cap : Nat} (h : OwnA w B E (.slice (some ⟨g, 0, none⟩) n cap) as) (j : Nat) : w.frozen? ⟨g, j, none⟩ = false := by
  rcases h.shape with ⟨hv, _⟩ | ⟨g', cap', hv, _⟩
  · cases hv
  · injection hv with h1 h2 h3
    subst h2
    exact World.ownsRow.frozenAt h j
theorem OwnA.reads (h : OwnA w B E v as) : ReadsArcs w v as := by
  rcases h.shape with ⟨hv, hf⟩ | ⟨g, cap, hv, _, _, h1, h2⟩
  · subst hv; subst hf
    exact ⟨none, 0, rfl, Nat.le_refl _, Nat.zero_le _, fun i hi => by simp at hi⟩
  · subst hv
    refine ⟨_, cap, rfl, h1, h2, fun i hi => ⟨g, 0, rfl, ?_⟩⟩
    have := h.cellAt i hi
    simpa using this
/-- an element is stored -/
theorem OwnA.put {g n cap : Nat} (h : OwnA w B E (.slice (some ⟨g, 0, none⟩) n cap) as) (i : Nat) (hi : i < as.length) (x : Int × Int × Int) :
    OwnA (((w.setCell ⟨g, i * 3, none⟩ (.int .i64 x.1)).setCell ⟨g, i * 3 + 1, none⟩ (.int .i64 x.2.1)).setCell ⟨g, i * 3 + 2, none⟩ (.int .i64 x.2.2)) B E (.slice (some ⟨g, 0, none⟩) n cap) (as.set i x) := by
  rcases h.shape with ⟨hv, _⟩ | ⟨g', cap', hv, _⟩
  · cases hv
  · injection hv with h1 h2 h3
    subst h2
    have h1 := (World.ownsRow.stored h (i * 3) (.int .i64 x.1)).1
    have h2 := (World.ownsRow.stored h1 (i * 3 + 1) (.int .i64 x.2.1)).1
    have h3 := (World.ownsRow.stored h2 (i * 3 + 2) (.int .i64 x.2.2)).1
    rw [arcCells_set as i hi x] at h3
    unfold OwnA
    rw [List.length_set]
    exact h3
theorem OwnA.made (w : World) (E : TypeId) (n : Nat) (hn : n ≤ maxLen) : OwnA (w.alloc (.cells (madeCells #[.int .i64 0, .int .i64 0, .int .i64 0] (n * 3)) E)) w.heap.size E (.slice (some ⟨w.heap.size, 0, none⟩) n n) (List.replicate n (0, 0, 0)) := by
  have e : (madeCells #[Value.int .i64 0, .int .i64 0, .int .i64 0] (n * 3)).toList = List.replicate (n * 3) (.int .i64 0) := by
    apply List.ext_getElem
    · rw [Array.length_toList, size_madeCells, List.length_replicate]
    · intro i h1 h2
      simp [madeCells]
      have h3 : i % 3 < 3 := Nat.mod_lt _ (by omega)
      generalize i % 3 = k at h3
      match k, h3 with
      | 0, _ => rfl
      | 1, _ => rfl
      | 2, _ => rfl
  unfold OwnA
  rw [List.length_replicate, arcCells_replicate]
  refine ⟨by simp, .inr ⟨w.heap.size, n, _, rfl, Nat.le_refl _, heap_alloc_new w _, Nat.le_refl _, hn, size_madeCells _ _, ?_⟩⟩
  rw [e, List.take_of_length_le (by simp)]
end
theorem run_make_arcs {P : Program} (t e : TypeId) (bytes : Nat) (ht : P.underlying t = some (.slice e)) (hinfo : (P.info? e).map (fun i => (i.zero, i.size, i.bytes)) = some (some (.agg #[.int .i64 0, .int .i64 0, .int .i64 0]), 3, bytes))
    (kl kc : IntKind) (n : Nat) (hbytes : bytes * n ≤ 281474976710656) (h63 : n ≤ 9223372036854775807) (w : World) :
    (Instr.makeSlice t (.int kl (n : Int)) (.int kc (n : Int))).run P w = .ok (.slice (some ⟨w.heap.size, 0, none⟩) n n) (w.alloc (.cells (madeCells #[.int .i64 0, .int .i64 0, .int .i64 0] (n * 3)) e)) := by
  obtain ⟨i, hi, hzz⟩ := Option.map_eq_some_iff.1 hinfo
  simp only [Prod.mk.injEq] at hzz
  obtain ⟨hz, hs, hb⟩ := hzz
  have hb' : (i.bytes : Int) * (n : Int) ≤ 281474976710656 := by
    have h : ((i.bytes * n : Nat) : Int) ≤ 281474976710656 := by rw [hb]; omega
    rwa [Int.natCast_mul] at h
  have hr := run_make (P := P) w t e i _ ht hi hz kl kc n n (by omega) (Int.le_refl _) hb' (by omega)
  have hc : (Value.agg #[.int .i64 0, .int .i64 0, .int .i64 0]).cells = #[.int .i64 0, .int .i64 0, .int .i64 0] := by rfl
  simp only [Int.toNat_natCast, hs, hc] at hr
  exact hr
end Go

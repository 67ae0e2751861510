/- Contracts of the laws' own helpers on labelled graphs: copies and comparisons; equal graphs, by the program. -/
import Derived.Test.YtjfgbnihnnlneaaLabB
namespace Go
open Go.RowKit
theorem Ext.unfrozen {w w' : World} {n i : Nat} (hx : Ext w w') (h : n < w.heap.size) (hf : w.frozen? ⟨n, i, none⟩ = false) : w'.frozen? ⟨n, i, none⟩ = false :=
  (Below.frozen (p := ⟨n, i, none⟩) hx h).trans hf
theorem fresh_cell {w : World} {c : Array Value} {t : TypeId} {n i : Nat} {v : Value} (h : n = w.heap.size) (hv : c[i]? = some v) : (w.alloc (.cells c t)).cell? ⟨n, i, none⟩ = some v := by
  subst h
  rw [World.cell?_alloc_new, hv]
theorem old_cell {w : World} {o : Obj} {n i : Nat} {v : Value} (h : w.cell? ⟨n, i, none⟩ = some v) : (w.alloc o).cell? ⟨n, i, none⟩ = some v := by
  rw [World.cell?_alloc_lt _ _ _ (World.block_lt_of_cell? w _ h), h]
theorem fresh_open {w : World} {c : Array Value} {t : TypeId} {n i : Nat} (h : n = w.heap.size) : (w.alloc (.cells c t)).frozen? ⟨n, i, none⟩ = false := by
  subst h
  rw [World.frozen?_alloc_new]
theorem old_open {w : World} {o : Obj} {n i : Nat} (h : n < w.heap.size) (hf : w.frozen? ⟨n, i, none⟩ = false) : (w.alloc o).frozen? ⟨n, i, none⟩ = false := by
  rw [World.frozen?_alloc_old _ _ _ (Nat.ne_of_lt h), hf]
theorem eq_of_arcs {xs ys : List (Int × Int × Int)} (hl : xs.length = ys.length) (h : ∀ i, i < xs.length → xs[i]? = ys[i]?) : xs = ys := by
  apply List.ext_getElem?
  intro i
  by_cases hi : i < xs.length
  · exact h i hi
  · rw [List.getElem?_eq_none (by omega), List.getElem?_eq_none (by omega)]
end Go
namespace Go.Proofs.Ytjfgbnihnnlneaa
open Go.RowKit

set_option maxHeartbeats 1000000 in
theorem eqLabels_same (L S : Int) (u u' : Value) (ar : List (Int × Int × Int)) (w : World) (h : ReadsArcs w u ar) (h' : ReadsArcs w u' ar) :
    Calls Try.prog 9 #[.agg #[.int .i64 L, .int .i64 S, u], .agg #[.int .i64 L, .int .i64 S, u']] w fun e w' => e = .returned (.bool true) ∧ Ext w w' := by
  have hs := fun w' (hx : Ext w w') => eqArcS_same u u' ar w' (h.ext hx) (h'.ext hx)
  have HS := Lib.hid hs
  obtain ⟨a, c, rfl⟩ := h.slice
  obtain ⟨a', c', rfl⟩ := h'.slice
  clear hs h h'
  go_enter Try.func9, Try.ntmps9
  go_wp2_with fail
  with_reducible refine (HS.out _ ((Ext.alloc _ _).trans (Ext.alloc _ _))).mono ?_
  rintro e w1 ⟨rfl, hx1⟩
  go_wp2
  go_ret
  exact ⟨rfl, Ext.trans ((Ext.alloc _ _).trans (Ext.alloc _ _)) hx1⟩

set_option maxHeartbeats 1000000 in
theorem slices_EqualA_any (v v' : Value) (xs ys : List (Int × Int × Int)) (w : World) (h : ReadsArcs w v xs) (h' : ReadsArcs w v' ys) :
    Calls Try.prog 14 #[v, v'] w fun e w' => e = .returned (.bool (decide (xs = ys))) ∧ Ext w w' := by
  obtain ⟨pa, ca, rfl⟩ := h.slice
  obtain ⟨pb, cb, rfl⟩ := h'.slice
  obtain ⟨-, hla1, hla2⟩ := h.len
  obtain ⟨-, hlb1, hlb2⟩ := h'.len
  by_cases hl : xs.length = ys.length
  rotate_left
  · have hne : ((xs.length : Int) != (ys.length : Int)) = true := by simp; omega
    have HN := Lib.hid (show decide (xs = ys) = false from decide_eq_false fun e => hl (by rw [e]))
    clear hl
    go_enter Try.func14, Try.ntmps14
    go_wp2
    go_ret
    exact ⟨lab_bool HN.out.symm, Ext.refl _⟩
  obtain ⟨n, hn⟩ : ∃ n, n = xs.length := ⟨_, rfl⟩
  rw [← hl] at h' hlb1 ⊢
  rw [← hn] at h h' hla1 hlb1 ⊢
  have hne : ((n : Int) != (n : Int)) = false := by simp
  have HM := Lib.hid (And.intro h (And.intro h' (And.intro hn hl)))
  clear h h' hn hl
  go_enter Try.func14, Try.ntmps14
  go_wp2
  go_loopw [13] (fun q wr => ∃ k : Nat, k ≤ n ∧ q = .int .i64 k ∧ (∀ j, j < k → xs[j]? = ys[j]?) ∧ Ext w wr) (fun q _ => n - (intOf q).toNat)
  case atStart => exact ⟨0, by omega, rfl, fun j hj => by omega, Ext.refl _⟩
  case round =>
    obtain ⟨k, hk, rfl, hp, hx0⟩ := hrel
    by_cases hlt : k < n
    · obtain ⟨b, o, x, y, z, rfl, hxyz, k0, k1, k2⟩ := (HM.out.1.ext hx0).at k (by rw [← HM.out.2.2.1]; exact hlt)
      obtain ⟨b', o', x', y', z', rfl, hxyz', k0', k1', k2'⟩ := (HM.out.2.1.ext hx0).at k (by rw [← HM.out.2.2.2, ← HM.out.2.2.1]; exact hlt)
      have HK := Lib.hid (And.intro hp (And.intro hxyz hxyz'))
      clear hp hxyz hxyz'
      have hxd : ∀ j, Ext w (wr.drewN j) := fun j => hx0.drewN j
      by_cases he : (x, y, z) = (x', y', z')
      · obtain ⟨rfl, rfl, rfl⟩ : x = x' ∧ y = y' ∧ z = z' := by simpa using he
        clear he
        go_wp2
        go_quiet (fail)
        go_wp2
        go_roundw
        case rel => exact ⟨k + 1, by omega, by go_num, fun j hj => by
          by_cases e : j = k
          · subst e; rw [HK.out.2.1, HK.out.2.2]
          · exact HK.out.1 j (by omega), hxd _⟩
        case measure => simp [intOf]; omega
      · have HE := Lib.hid (show decide (xs = ys) = false from decide_eq_false fun e => he (by
          have h1 := HK.out.2.1
          rw [e, HK.out.2.2] at h1
          exact (Option.some.inj h1).symm))
        have hf : ¬ (x = x' ∧ y = y' ∧ z = z') := by simpa using he
        clear he
        by_cases h1 : x = x'
        · subst h1
          by_cases h2 : y = y'
          · subst h2
            have h3 : ¬ z = z' := fun e => hf ⟨rfl, rfl, e⟩
            have hne : (z == z') = false := by simpa using h3
            clear hf
            go_wp2
            go_quiet (fail)
            go_wp2
            go_ret
            exact ⟨lab_bool HE.out.symm, hxd _⟩
          · have hne : (y == y') = false := by simpa using h2
            clear hf
            go_wp2
            go_quiet (fail)
            go_wp2
            go_ret
            exact ⟨lab_bool HE.out.symm, hxd _⟩
        · have hne : (x == x') = false := by simpa using h1
          clear hf
          go_wp2
          go_quiet (fail)
          go_wp2
          go_ret
          exact ⟨lab_bool HE.out.symm, hxd _⟩
    · have hkn : k = n := by omega
      have he : xs = ys := eq_of_arcs HM.out.2.2.2 (fun j hj => hp j (by rw [hkn, HM.out.2.2.1]; exact hj))
      have HE := Lib.hid (decide_eq_true he)
      clear hp he
      go_wp2
      go_ret
      exact ⟨lab_bool HE.out.symm, hx0⟩

set_option maxHeartbeats 1000000 in
theorem toLabels_any (L S : Int) (u : Value) (ar : List (Int × Int × Int)) (w : World) (h : ReadsArcs w u ar) (hs : ar.length ≤ 1048576) :
    Calls Try.prog 7 #[.agg #[.int .i64 L, .int .i64 S, u]] w fun e w' => ∃ u', e = .returned (.agg #[.int .i64 L, .int .i64 S, u']) ∧ ReadsArcs w' u' ar ∧ Ext w w' := by
  have ht := fun w' (hx : Ext w w') => toArcS_any u ar w' (h.ext hx) hs
  have HT := Lib.hid ht
  obtain ⟨a, c, rfl⟩ := h.slice
  clear ht h
  go_enter Try.func7, Try.ntmps7
  go_wp2_with fail
  with_reducible refine (HT.out _ (((Ext.alloc _ _).trans (Ext.alloc _ _)).trans (Ext.alloc _ _))).mono ?_
  rintro e w1 ⟨rfl, hown, hx1⟩
  obtain ⟨g, hg⟩ : ∃ g, g = (((w.alloc (.cells #[.int .i64 L, .int .i64 S, .slice a ar.length c] 24)).alloc (.cells #[.int .i64 0, .int .i64 0, .slice none 0 0] 29)).alloc (.cells #[.int .i64 L, .int .i64 S, .slice none 0 0] 29)).heap.size := ⟨_, rfl⟩
  have b0 := hx1.cell_some (old_cell (fresh_cell (n := w.heap.size + 1) (i := 0) (by simp) rfl))
  have b1 := hx1.cell_some (old_cell (fresh_cell (n := w.heap.size + 1) (i := 1) (by simp) rfl))
  have b2 := hx1.cell_some (old_cell (fresh_cell (n := w.heap.size + 1) (i := 2) (by simp) rfl))
  have c0 := hx1.cell_some (fresh_cell (n := w.heap.size + 2) (i := 0) (by simp) rfl)
  have c1 := hx1.cell_some (fresh_cell (n := w.heap.size + 2) (i := 1) (by simp) rfl)
  have c2 := hx1.cell_some (fresh_cell (n := w.heap.size + 2) (i := 2) (by simp) rfl)
  have fb := fun i => hx1.unfrozen (n := w.heap.size + 1) (i := i) (by simp) (old_open (by simp) (fresh_open (by simp)))
  have fc := fun i => hx1.unfrozen (n := w.heap.size + 2) (i := i) (by simp) (fresh_open (by simp))
  have fb0 := fb 0
  have fb1 := fb 1
  have fb2 := fb 2
  have fc2 := fc 2
  have hxw := Ext.trans (((Ext.alloc w (.cells #[.int .i64 L, .int .i64 S, .slice a ar.length c] 24)).trans (Ext.alloc _ (.cells #[.int .i64 0, .int .i64 0, .slice none 0 0] 29))).trans (Ext.alloc _ (.cells #[.int .i64 L, .int .i64 S, .slice none 0 0] 29))) hx1
  rw [← hg] at hown ⊢
  have hg3 : g = w.heap.size + 3 := by rw [hg]; simp
  have HO := Lib.hid (And.intro hown (And.intro hxw hg3))
  clear hown hxw hx1 fb fc hg hg3
  go_wp2
  have ho := HO.out.1
  have h1 : OwnA (w1.setCell ⟨w.heap.size + 1 + 1, 2, none⟩ (.slice (some ⟨g, 0, none⟩) ar.length ar.length)) g 36 (.slice (some ⟨g, 0, none⟩) ar.length ar.length) ar := World.ownsRow.kept ho (GB.setCell (GB.refl w1 (some (w.heap.size + 1 + 1))) 2 _) (.inr (by simp [Value.ownBlock]; have := HO.out.2.2; omega))
  have h2 : OwnA ((w1.setCell ⟨w.heap.size + 1 + 1, 2, none⟩ (.slice (some ⟨g, 0, none⟩) ar.length ar.length)).setCell ⟨w.heap.size + 1, 0, none⟩ (.int .i64 L)) g 36 (.slice (some ⟨g, 0, none⟩) ar.length ar.length) ar := World.ownsRow.kept h1 (GB.setCell (GB.refl _ (some (w.heap.size + 1))) 0 _) (.inr (by simp [Value.ownBlock]; have := HO.out.2.2; omega))
  have h3 : OwnA (((w1.setCell ⟨w.heap.size + 1 + 1, 2, none⟩ (.slice (some ⟨g, 0, none⟩) ar.length ar.length)).setCell ⟨w.heap.size + 1, 0, none⟩ (.int .i64 L)).setCell ⟨w.heap.size + 1, 1, none⟩ (.int .i64 S)) g 36 (.slice (some ⟨g, 0, none⟩) ar.length ar.length) ar := World.ownsRow.kept h2 (GB.setCell (GB.refl _ (some (w.heap.size + 1))) 1 _) (.inr (by simp [Value.ownBlock]; have := HO.out.2.2; omega))
  have h4 : OwnA ((((w1.setCell ⟨w.heap.size + 1 + 1, 2, none⟩ (.slice (some ⟨g, 0, none⟩) ar.length ar.length)).setCell ⟨w.heap.size + 1, 0, none⟩ (.int .i64 L)).setCell ⟨w.heap.size + 1, 1, none⟩ (.int .i64 S)).setCell ⟨w.heap.size + 1, 2, none⟩ (.slice (some ⟨g, 0, none⟩) ar.length ar.length)) g 36 (.slice (some ⟨g, 0, none⟩) ar.length ar.length) ar := World.ownsRow.kept h3 (GB.setCell (GB.refl _ (some (w.heap.size + 1))) 2 _) (.inr (by simp [Value.ownBlock]; have := HO.out.2.2; omega))
  have hr := h4.reads
  have hle : w.heap.size ≤ w.heap.size + 1 := Nat.le_succ _
  have hx4 := (((Ext.setCell HO.out.2.1 (p := ⟨w.heap.size + 1 + 1, 2, none⟩) (Nat.le_trans hle (Nat.le_succ _)) (.slice (some ⟨g, 0, none⟩) ar.length ar.length)).setCell (p := ⟨w.heap.size + 1, 0, none⟩) hle (.int .i64 L)).setCell (p := ⟨w.heap.size + 1, 1, none⟩) hle (.int .i64 S)).setCell (p := ⟨w.heap.size + 1, 2, none⟩) hle (.slice (some ⟨g, 0, none⟩) ar.length ar.length)
  refine bodyPost_ret (v := .agg #[.int .i64 L, .int .i64 S, .slice (some ⟨g, 0, none⟩) ar.length ar.length]) ?_ rfl ⟨_, rfl, hr, hx4⟩
  clear hr hx4 h1 h2 h3 h4 ho
  simp [results, Try.results7, go_sem, b0, b1, b2]
end Go.Proofs.Ytjfgbnihnnlneaa

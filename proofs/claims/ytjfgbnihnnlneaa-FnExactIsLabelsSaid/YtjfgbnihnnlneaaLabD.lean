/- Contracts: labelled graphs compared, by the program and by the reference. -/
import Derived.Test.YtjfgbnihnnlneaaLabC
namespace Go.Proofs.Ytjfgbnihnnlneaa
open Go.RowKit

def sameLab (L S : Int) (xs : List (Int × Int × Int)) (L' S' : Int) (ys : List (Int × Int × Int)) : Bool := decide (L = L') && (decide (S = S') && decide (xs = ys))

set_option maxHeartbeats 1000000 in
theorem impl_EqualLabels_any (L S L' S' : Int) (u u' : Value) (xs ys : List (Int × Int × Int)) (w : World) (h : ReadsArcs w u xs) (h' : ReadsArcs w u' ys) :
    Calls Try.prog 8 #[.agg #[.int .i64 L, .int .i64 S, u], .agg #[.int .i64 L', .int .i64 S', u']] w fun e w' => e = .returned (.bool (sameLab L S xs L' S' ys)) ∧ Ext w w' := by
  have hs := fun w' (hx : Ext w w') => slices_EqualA_any u u' xs ys w' (h.ext hx) (h'.ext hx)
  obtain ⟨d, hd⟩ : ∃ d, d = decide (xs = ys) := ⟨_, rfl⟩
  unfold sameLab
  rw [← hd]
  rw [← hd] at hs
  have HS := Lib.hid hs
  obtain ⟨a, c, rfl⟩ := h.slice
  obtain ⟨a', c', rfl⟩ := h'.slice
  clear hs h h' hd
  by_cases h1 : L = L'
  · subst h1
    by_cases h2 : S = S'
    · subst h2
      go_enter Try.func8, Try.ntmps8
      go_wp2_with fail
      with_reducible refine (HS.out _ ((Ext.alloc _ _).trans (Ext.alloc _ _))).mono ?_
      rintro e w1 ⟨rfl, hx1⟩
      go_wp2
      go_ret
      exact ⟨lab_bool (by simp), Ext.trans ((Ext.alloc _ _).trans (Ext.alloc _ _)) hx1⟩
    · have hne : (S == S') = false := by simpa using h2
      go_enter Try.func8, Try.ntmps8
      go_wp2
      go_ret
      exact ⟨lab_bool (by simp [h2]), (Ext.alloc _ _).trans (Ext.alloc _ _)⟩
  · have hne : (L == L') = false := by simpa using h1
    go_enter Try.func8, Try.ntmps8
    go_wp2
    go_ret
    exact ⟨lab_bool (by simp [h1]), (Ext.alloc _ _).trans (Ext.alloc _ _)⟩

set_option maxHeartbeats 2000000 in
theorem spec_EqualLabels_any (L S L' S' : Int) (u u' : Value) (xs ys : List (Int × Int × Int)) (w : World) (h : ReadsArcs w u xs) (h' : ReadsArcs w u' ys) :
    Calls Try.prog 6 #[.agg #[.int .i64 L, .int .i64 S, u], .agg #[.int .i64 L', .int .i64 S', u']] w fun e w' => e = .returned (.bool (sameLab L S xs L' S' ys)) ∧ Ext w w' := by
  obtain ⟨pa, ca, rfl⟩ := h.slice
  obtain ⟨pb, cb, rfl⟩ := h'.slice
  obtain ⟨-, hla1, hla2⟩ := h.len
  obtain ⟨-, hlb1, hlb2⟩ := h'.len
  by_cases h1 : L = L'
  rotate_left
  · have hne : (L != L') = true := by simpa using h1
    go_enter Try.func6, Try.ntmps6
    go_wp2
    go_ret
    exact ⟨lab_bool (by simp [sameLab, h1]), (Ext.alloc _ _).trans (Ext.alloc _ _)⟩
  by_cases h2 : S = S'
  rotate_left
  · subst h1
    have hne : (S != S') = true := by simpa using h2
    go_enter Try.func6, Try.ntmps6
    go_wp2
    go_ret
    exact ⟨lab_bool (by simp [sameLab, h2]), (Ext.alloc _ _).trans (Ext.alloc _ _)⟩
  subst h1
  subst h2
  have hsl : sameLab L S xs L S ys = decide (xs = ys) := by simp [sameLab]
  rw [hsl]
  clear hsl
  by_cases hl : xs.length = ys.length
  rotate_left
  · have hne : ((xs.length : Int) != (ys.length : Int)) = true := by simp; omega
    have HN := Lib.hid (show decide (xs = ys) = false from decide_eq_false fun e => hl (by rw [e]))
    clear hl
    go_enter Try.func6, Try.ntmps6
    go_wp2
    go_ret
    exact ⟨lab_bool HN.out.symm, (Ext.alloc _ _).trans (Ext.alloc _ _)⟩
  obtain ⟨n, hn⟩ : ∃ n, n = xs.length := ⟨_, rfl⟩
  rw [← hl] at h' hlb1 ⊢
  rw [← hn] at h h' hla1 hlb1 ⊢
  have hne : ((n : Int) != (n : Int)) = false := by simp
  have HM := Lib.hid (And.intro h (And.intro h' (And.intro hn hl)))
  clear h h' hn hl
  have hxw := (Ext.alloc w (.cells #[.int .i64 L, .int .i64 S, .slice pa n ca] 29)).trans (Ext.alloc _ (.cells #[.int .i64 L, .int .i64 S, .slice pb n cb] 29))
  obtain ⟨W, hW⟩ : ∃ W, W = (w.alloc (.cells #[.int .i64 L, .int .i64 S, .slice pa n ca] 29)).alloc (.cells #[.int .i64 L, .int .i64 S, .slice pb n cb] 29) := ⟨_, rfl⟩
  have ga2 : W.cell? ⟨w.heap.size, 2, none⟩ = some (.slice pa n ca) := by rw [hW]; exact old_cell (fresh_cell rfl rfl)
  have gb2 : W.cell? ⟨w.heap.size + 1, 2, none⟩ = some (.slice pb n cb) := by rw [hW]; exact fresh_cell (by simp) rfl
  rw [← hW] at hxw
  have HW := Lib.hid (And.intro ga2 (And.intro gb2 (And.intro hxw hW)))
  clear ga2 gb2 hxw hW
  go_enter Try.func6, Try.ntmps6
  go_wp2
  go_loopw [5] (fun q wr => ∃ k : Nat, k ≤ n ∧ q = .int .i64 k ∧ (∀ j, j < k → xs[j]? = ys[j]?) ∧ Ext W wr) (fun q _ => n - (intOf q).toNat)
  case atStart => exact ⟨0, by omega, rfl, fun j hj => by omega, by rw [← HW.out.2.2.2]; exact Ext.refl _⟩
  case round =>
    obtain ⟨k, hk, rfl, hp, hx0⟩ := hrel
    have ga2 := hx0.cell_some HW.out.1
    have gb2 := hx0.cell_some HW.out.2.1
    have hxW := Ext.trans HW.out.2.2.1 hx0
    by_cases hlt : k < n
    · obtain ⟨b, o, x, y, z, rfl, hxyz, k0, k1, k2⟩ := (HM.out.1.ext hxW).at k (by rw [← HM.out.2.2.1]; exact hlt)
      obtain ⟨b', o', x', y', z', rfl, hxyz', k0', k1', k2'⟩ := (HM.out.2.1.ext hxW).at k (by rw [← HM.out.2.2.2, ← HM.out.2.2.1]; exact hlt)
      have HK := Lib.hid (And.intro hp (And.intro hxyz hxyz'))
      clear hp hxyz hxyz'
      have hxd : ∀ j, Ext W (wr.drewN j) := fun j => hx0.drewN j
      have hxe : ∀ j, Ext w (wr.drewN j) := fun j => hxW.drewN j
      by_cases he : (x, y, z) = (x', y', z')
      · obtain ⟨rfl, rfl, rfl⟩ : x = x' ∧ y = y' ∧ z = z' := by simpa using he
        clear he
        go_wp2
        go_quiet (fail)
        go_wp2
        go_roundw
        case rel => exact ⟨k + 1, by omega, by go_num, fun j hj => by
          by_cases e : j = k
          · subst e; rw [HK.out.2.1, HK.out.2.2]
          · exact HK.out.1 j (by omega), hxd _⟩
        case measure => simp [intOf]; omega
      · have HE := Lib.hid (show decide (xs = ys) = false from decide_eq_false fun e => he (by
          have h1 := HK.out.2.1
          rw [e, HK.out.2.2] at h1
          exact (Option.some.inj h1).symm))
        have hf : ¬ (x = x' ∧ y = y' ∧ z = z') := by simpa using he
        clear he
        by_cases h1 : x = x'
        · subst h1
          by_cases h2 : y = y'
          · subst h2
            have h3 : ¬ z = z' := fun e => hf ⟨rfl, rfl, e⟩
            have hne : (z == z') = false := by simpa using h3
            clear hf
            go_wp2
            go_quiet (fail)
            go_wp2
            go_ret
            exact ⟨lab_bool HE.out.symm, hxe _⟩
          · have hne : (y == y') = false := by simpa using h2
            clear hf
            go_wp2
            go_quiet (fail)
            go_wp2
            go_ret
            exact ⟨lab_bool HE.out.symm, hxe _⟩
        · have hne : (x == x') = false := by simpa using h1
          clear hf
          go_wp2
          go_quiet (fail)
          go_wp2
          go_ret
          exact ⟨lab_bool HE.out.symm, hxe _⟩
    · have hkn : k = n := by omega
      have he : xs = ys := eq_of_arcs HM.out.2.2.2 (fun j hj => hp j (by rw [hkn, HM.out.2.2.1]; exact hj))
      have HE := Lib.hid (decide_eq_true he)
      clear hp he
      go_wp2
      go_ret
      exact ⟨lab_bool HE.out.symm, hxW⟩
end Go.Proofs.Ytjfgbnihnnlneaa

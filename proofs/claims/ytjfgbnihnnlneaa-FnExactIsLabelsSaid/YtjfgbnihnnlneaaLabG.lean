/- Contracts: valid labelled graphs, by the program. -/
import Derived.Test.YtjfgbnihnnlneaaLabM
namespace Go.Proofs.Ytjfgbnihnnlneaa
open Go.RowKit

set_option maxRecDepth 100000 in
set_option maxHeartbeats 8000000 in
theorem impl_IsLabels_any (L S : Int) (u : Value) (ar : List (Int × Int × Int)) (w : World) (h : ReadsArcs w u ar) :
    Calls Try.prog 11 #[.agg #[.int .i64 L, .int .i64 S, u]] w fun e w' => e = .returned (.bool (isLab L S ar)) ∧ Ext w w' := by
  obtain ⟨pa, ca, rfl⟩ := h.slice
  obtain ⟨-, hlc, hc⟩ := h.len
  by_cases hL : 1 ≤ L ∧ L ≤ 3
  rotate_left
  · have HB := Lib.hid (And.intro (isLab_head (S := S) (ar := ar) (.inl hL)) (show (decide (1 ≤ L) && decide (L ≤ 3)) = false by rw [Bool.eq_false_iff]; simp; omega))
    clear hL h
    go_enter Try.func11, Try.ntmps11
    go_wp2_with fail
    with_reducible refine (isLetters_any _ _).mono ?_
    rintro e w' ⟨rfl, rfl⟩
    rw [HB.out.2]
    go_wp2
    go_ret
    exact ⟨lab_bool HB.out.1.symm, Ext.alloc _ _⟩
  by_cases hS1 : S < 1
  · have HB := Lib.hid (And.intro (isLab_head (L := L) (S := S) (ar := ar) (.inr (by omega))) (show (decide (1 ≤ L) && decide (L ≤ 3)) = true by simp; omega))
    clear hL h
    go_enter Try.func11, Try.ntmps11
    go_wp2_with fail
    with_reducible refine (isLetters_any _ _).mono ?_
    rintro e w' ⟨rfl, rfl⟩
    rw [HB.out.2]
    go_wp2
    go_ret
    exact ⟨lab_bool HB.out.1.symm, Ext.alloc _ _⟩
  by_cases hS12 : 12 < S
  · have HB := Lib.hid (And.intro (isLab_head (L := L) (S := S) (ar := ar) (.inr (by omega))) (show (decide (1 ≤ L) && decide (L ≤ 3)) = true by simp; omega))
    clear hL h
    go_enter Try.func11, Try.ntmps11
    go_wp2_with fail
    with_reducible refine (isLetters_any _ _).mono ?_
    rintro e w' ⟨rfl, rfl⟩
    rw [HB.out.2]
    go_wp2
    go_ret
    exact ⟨lab_bool HB.out.1.symm, Ext.alloc _ _⟩
  have hLL : (decide (1 ≤ L) && decide (L ≤ 3)) = true := by simp; omega
  have hSS : (decide (1 ≤ L ∧ L ≤ 3) && decide (1 ≤ S ∧ S ≤ 12)) = true := by rw [decide_eq_true hL, decide_eq_true (by omega)]; rfl
  obtain ⟨n, hn⟩ : ∃ n, n = ar.length := ⟨_, rfl⟩
  rw [← hn] at h hlc ⊢
  have HM := Lib.hid (And.intro h (And.intro hn (And.intro hLL hSS)))
  have hL1 := hL.1
  have hL3 := hL.2
  clear h hn hLL hSS hL
  go_enter Try.func11, Try.ntmps11
  go_wp2_with fail
  with_reducible refine (isLetters_any _ _).mono ?_
  rintro e w' ⟨rfl, rfl⟩
  rw [HM.out.2.2.1]
  go_wp2
  go_loopw [22] (fun q wr => ∃ k : Nat, k ≤ n ∧ q = .int .i64 k ∧ (∀ j, j < k → okAt L S ar j = true) ∧ Ext (w.alloc (.cells #[.int .i64 L, .int .i64 S, .slice pa n ca] 29)) wr) (fun q _ => n - (intOf q).toNat)
  case atStart => exact ⟨0, by omega, rfl, fun j hj => by omega, Ext.refl _⟩
  case round =>
    obtain ⟨k, hk, rfl, hp, hx⟩ := hrel
    have E := Ext.trans (Ext.alloc w (.cells #[.int .i64 L, .int .i64 S, .slice pa n ca] 29)) hx
    have l0 := hx.cell_some (fresh_cell (n := w.heap.size) (i := 0) rfl rfl)
    have l1 := hx.cell_some (fresh_cell (n := w.heap.size) (i := 1) rfl rfl)
    have l2 := hx.cell_some (fresh_cell (n := w.heap.size) (i := 2) rfl rfl)
    by_cases hlt : k < n
    · obtain ⟨b, o, x, y, z, rfl, hxyz, k0, k1, k2⟩ := (HM.out.1.ext E).at k (by rw [← HM.out.2.1]; exact hlt)
      have HZ := Lib.hid (show ∀ w', Ext (wr.alloc (.cells #[.int .i64 x, .int .i64 y, .int .i64 z] 36)) w' → (w'.cell? ⟨w.heap.size, 0, none⟩ = some (.int .i64 L) ∧ w'.cell? ⟨w.heap.size, 1, none⟩ = some (.int .i64 S) ∧ w'.cell? ⟨w.heap.size, 2, none⟩ = some (.slice (some ⟨b, o, none⟩) n ca)) ∧ w'.cell? ⟨wr.heap.size, 0, none⟩ = some (.int .i64 x) ∧ w'.cell? ⟨wr.heap.size, 1, none⟩ = some (.int .i64 y) ∧ w'.cell? ⟨wr.heap.size, 2, none⟩ = some (.int .i64 z) from
        fun w' hw => ⟨⟨hw.cell_some (old_cell l0), hw.cell_some (old_cell l1), hw.cell_some (old_cell l2)⟩, hw.cell_some (fresh_cell rfl rfl), hw.cell_some (fresh_cell rfl rfl), hw.cell_some (fresh_cell rfl rfl)⟩)
      have HP := Lib.hid (And.intro hp (And.intro hxyz (And.intro hx E)))
      clear hp hxyz l0 l1 l2 hx E
      by_cases h1 : x < 0
      · skip
        have HB := Lib.hid (isLab_bad (by rw [← HM.out.2.1]; exact hlt) (okAt_arc (L := L) (S := S) HP.out.2.1 (by omega)))
        go_wp2
        have E := Ext.alloc wr (.cells #[.int .i64 x, .int .i64 y, .int .i64 z] 36)
        refine wp_region_inv (by kernel_rfl) (.known ?hx8_1_v0 :: .known ?hx8_1_v1 :: .known ?hx8_1_v2 :: .known ?hx8_1_v3 :: .known ?hx8_1_v4 :: .known ?hx8_1_v5 :: .known ?hx8_1_v6 :: .known ?hx8_1_v7 :: .known ?hx8_1_v8 :: .known ?hx8_1_v9 :: .known ?hx8_1_v10 :: .known ?hx8_1_v11 :: .known ?hx8_1_v12 :: .known ?hx8_1_v13 :: .known ?hx8_1_v14 :: .known ?hx8_1_v15 :: .known ?hx8_1_v16 :: .known ?hx8_1_v17 :: .known ?hx8_1_v18 :: .known ?hx8_1_v19 :: .known ?hx8_1_v20 :: .known ?hx8_1_v21 :: .known ?hx8_1_v22 :: .known ?hx8_1_v23 :: .known ?hx8_1_v24 :: .known ?hx8_1_v25 :: .known ?hx8_1_v26 :: .known ?hx8_1_v27 :: .known ?hx8_1_v28 :: .known ?hx8_1_v29 :: .known ?hx8_1_v30 :: .known ?hx8_1_v31 :: .known ?hx8_1_v32 :: .known ?hx8_1_v33 :: .known ?hx8_1_v34 :: .known ?hx8_1_v35 :: .known ?hx8_1_v36 :: .known ?hx8_1_v37 :: .known ?hx8_1_v38 :: .known ?hx8_1_v39 :: .known ?hx8_1_v40 :: .known ?hx8_1_v41 :: .known ?hx8_1_v42 :: .known ?hx8_1_v43 :: .known ?hx8_1_v44 :: .known ?hx8_1_v45 :: .known ?hx8_1_v46 :: .known ?hx8_1_v47 :: .known ?hx8_1_v48 :: []) rfl (by kernel_rfl) ?hx8_1_s ?hx8_1_p
        case hx8_1_s =>
          intro vs
          refine ⟨fun w' hxw hj => ?_, fun w' hxw hj => ?_, fun w' hxw hj => ?_, fun w' hxw hj => ?_, fun w' hxw hj => ?_, fun w' hxw hj => ?_, fun w' hxw hj => ?_, fun w' hxw hj => ?_, fun w' hxw hj => ?_, fun w' hxw hj => ?_, fun w' hxw hj => ?_, fun w' hxw hj => ?_, fun w' hxw hj => ?_, fun w' hxw hj => ?_, fun w' hxw hj => ?_, fun w' hxw hj => ?_, fun w' hxw hj => ?_, fun w' hxw hj => ?_, fun w' hxw hj => ?_, fun w' hxw hj => ?_, fun w' hxw hj => ?_, fun w' hxw hj => ?_, fun w' hxw hj => ?_, fun w' hxw hj => ?_, fun w' hxw hj => ?_, fun w' hxw hj => ?_, fun w' hxw hj => ?_, fun w' hxw hj => ?_, fun w' hxw hj => ?_, fun w' hxw hj => ?_, fun w' hxw hj => ?_, fun w' hxw hj => ?_, fun w' hxw hj => ?_, fun w' hxw hj => ?_, fun w' hxw hj => ?_, fun w' hxw hj => ?_, fun w' hxw hj => ?_, fun w' hxw hj => ?_, fun w' hxw hj => ?_, fun w' hxw hj => ?_, fun w' hxw hj => ?_, fun w' hxw hj => ?_, fun w' hxw hj => ?_, fun w' hxw hj => ?_, fun w' hxw hj => ?_, fun w' hxw hj => ?_, fun w' hxw hj => ?_, fun w' hxw hj => ?_, fun w' hxw hj => ?_, trivial⟩
          · have l0 := (HZ.out _ hxw).1.1
            have l1 := (HZ.out _ hxw).1.2.1
            have l2 := (HZ.out _ hxw).1.2.2
            have f0 := (HZ.out _ hxw).2.1
            have f1 := (HZ.out _ hxw).2.2.1
            have f2 := (HZ.out _ hxw).2.2.2
            clear hj
            go_simp
            try go_bits
            first | rfl | (rw [if_pos (by omega), if_pos (by omega)]; go_simp; rfl) | (rw [if_pos (by omega)]; go_simp; rfl) | skip
          · have l0 := (HZ.out _ hxw).1.1
            have l1 := (HZ.out _ hxw).1.2.1
            have l2 := (HZ.out _ hxw).1.2.2
            have f0 := (HZ.out _ hxw).2.1
            have f1 := (HZ.out _ hxw).2.2.1
            have f2 := (HZ.out _ hxw).2.2.2
            clear hj
            go_simp
            try go_bits
            first | rfl | (rw [if_pos (by omega), if_pos (by omega)]; go_simp; rfl) | (rw [if_pos (by omega)]; go_simp; rfl) | skip
          · have l0 := (HZ.out _ hxw).1.1
            have l1 := (HZ.out _ hxw).1.2.1
            have l2 := (HZ.out _ hxw).1.2.2
            have f0 := (HZ.out _ hxw).2.1
            have f1 := (HZ.out _ hxw).2.2.1
            have f2 := (HZ.out _ hxw).2.2.2
            clear hj
            go_simp
            try go_bits
            first | rfl | (rw [if_pos (by omega), if_pos (by omega)]; go_simp; rfl) | (rw [if_pos (by omega)]; go_simp; rfl) | skip
          · have l0 := (HZ.out _ hxw).1.1
            have l1 := (HZ.out _ hxw).1.2.1
            have l2 := (HZ.out _ hxw).1.2.2
            have f0 := (HZ.out _ hxw).2.1
            have f1 := (HZ.out _ hxw).2.2.1
            have f2 := (HZ.out _ hxw).2.2.2
            clear hj
            go_simp
            try go_bits
            first | rfl | (rw [if_pos (by omega), if_pos (by omega)]; go_simp; rfl) | (rw [if_pos (by omega)]; go_simp; rfl) | skip
          · have l0 := (HZ.out _ hxw).1.1
            have l1 := (HZ.out _ hxw).1.2.1
            have l2 := (HZ.out _ hxw).1.2.2
            have f0 := (HZ.out _ hxw).2.1
            have f1 := (HZ.out _ hxw).2.2.1
            have f2 := (HZ.out _ hxw).2.2.2
            clear hj
            go_simp
            try go_bits
            first | rfl | (rw [if_pos (by omega), if_pos (by omega)]; go_simp; rfl) | (rw [if_pos (by omega)]; go_simp; rfl) | skip
          · have l0 := (HZ.out _ hxw).1.1
            have l1 := (HZ.out _ hxw).1.2.1
            have l2 := (HZ.out _ hxw).1.2.2
            have f0 := (HZ.out _ hxw).2.1
            have f1 := (HZ.out _ hxw).2.2.1
            have f2 := (HZ.out _ hxw).2.2.2
            clear hj
            go_simp
            try go_bits
            first | rfl | (rw [if_pos (by omega), if_pos (by omega)]; go_simp; rfl) | (rw [if_pos (by omega)]; go_simp; rfl) | skip
          · have l0 := (HZ.out _ hxw).1.1
            have l1 := (HZ.out _ hxw).1.2.1
            have l2 := (HZ.out _ hxw).1.2.2
            have f0 := (HZ.out _ hxw).2.1
            have f1 := (HZ.out _ hxw).2.2.1
            have f2 := (HZ.out _ hxw).2.2.2
            clear hj
            go_simp
            try go_bits
            first | rfl | (rw [if_pos (by omega), if_pos (by omega)]; go_simp; rfl) | (rw [if_pos (by omega)]; go_simp; rfl) | skip
          · have l0 := (HZ.out _ hxw).1.1
            have l1 := (HZ.out _ hxw).1.2.1
            have l2 := (HZ.out _ hxw).1.2.2
            have f0 := (HZ.out _ hxw).2.1
            have f1 := (HZ.out _ hxw).2.2.1
            have f2 := (HZ.out _ hxw).2.2.2
            clear hj
            go_simp
            try go_bits
            first | rfl | (rw [if_pos (by omega), if_pos (by omega)]; go_simp; rfl) | (rw [if_pos (by omega)]; go_simp; rfl) | skip
          · have l0 := (HZ.out _ hxw).1.1
            have l1 := (HZ.out _ hxw).1.2.1
            have l2 := (HZ.out _ hxw).1.2.2
            have f0 := (HZ.out _ hxw).2.1
            have f1 := (HZ.out _ hxw).2.2.1
            have f2 := (HZ.out _ hxw).2.2.2
            clear hj
            go_simp
            try go_bits
            first | rfl | (rw [if_pos (by omega), if_pos (by omega)]; go_simp; rfl) | (rw [if_pos (by omega)]; go_simp; rfl) | skip
          · have l0 := (HZ.out _ hxw).1.1
            have l1 := (HZ.out _ hxw).1.2.1
            have l2 := (HZ.out _ hxw).1.2.2
            have f0 := (HZ.out _ hxw).2.1
            have f1 := (HZ.out _ hxw).2.2.1
            have f2 := (HZ.out _ hxw).2.2.2
            clear hj
            go_simp
            try go_bits
            first | rfl | (rw [if_pos (by omega), if_pos (by omega)]; go_simp; rfl) | (rw [if_pos (by omega)]; go_simp; rfl) | skip
          · have l0 := (HZ.out _ hxw).1.1
            have l1 := (HZ.out _ hxw).1.2.1
            have l2 := (HZ.out _ hxw).1.2.2
            have f0 := (HZ.out _ hxw).2.1
            have f1 := (HZ.out _ hxw).2.2.1
            have f2 := (HZ.out _ hxw).2.2.2
            clear hj
            go_simp
            try go_bits
            first | rfl | (rw [if_pos (by omega), if_pos (by omega)]; go_simp; rfl) | (rw [if_pos (by omega)]; go_simp; rfl) | skip
          · have l0 := (HZ.out _ hxw).1.1
            have l1 := (HZ.out _ hxw).1.2.1
            have l2 := (HZ.out _ hxw).1.2.2
            have f0 := (HZ.out _ hxw).2.1
            have f1 := (HZ.out _ hxw).2.2.1
            have f2 := (HZ.out _ hxw).2.2.2
            clear hj
            go_simp
            try go_bits
            first | rfl | (rw [if_pos (by omega), if_pos (by omega)]; go_simp; rfl) | (rw [if_pos (by omega)]; go_simp; rfl) | skip
          · have l0 := (HZ.out _ hxw).1.1
            have l1 := (HZ.out _ hxw).1.2.1
            have l2 := (HZ.out _ hxw).1.2.2
            have f0 := (HZ.out _ hxw).2.1
            have f1 := (HZ.out _ hxw).2.2.1
            have f2 := (HZ.out _ hxw).2.2.2
            clear hj
            go_simp
            try go_bits
            first | rfl | (rw [if_pos (by omega), if_pos (by omega)]; go_simp; rfl) | (rw [if_pos (by omega)]; go_simp; rfl) | skip
          · have l0 := (HZ.out _ hxw).1.1
            have l1 := (HZ.out _ hxw).1.2.1
            have l2 := (HZ.out _ hxw).1.2.2
            have f0 := (HZ.out _ hxw).2.1
            have f1 := (HZ.out _ hxw).2.2.1
            have f2 := (HZ.out _ hxw).2.2.2
            clear hj
            go_simp
            try go_bits
            first | rfl | (rw [if_pos (by omega), if_pos (by omega)]; go_simp; rfl) | (rw [if_pos (by omega)]; go_simp; rfl) | skip
          · have l0 := (HZ.out _ hxw).1.1
            have l1 := (HZ.out _ hxw).1.2.1
            have l2 := (HZ.out _ hxw).1.2.2
            have f0 := (HZ.out _ hxw).2.1
            have f1 := (HZ.out _ hxw).2.2.1
            have f2 := (HZ.out _ hxw).2.2.2
            clear hj
            go_simp
            try go_bits
            first | rfl | (rw [if_pos (by omega), if_pos (by omega)]; go_simp; rfl) | (rw [if_pos (by omega)]; go_simp; rfl) | skip
          · have l0 := (HZ.out _ hxw).1.1
            have l1 := (HZ.out _ hxw).1.2.1
            have l2 := (HZ.out _ hxw).1.2.2
            have f0 := (HZ.out _ hxw).2.1
            have f1 := (HZ.out _ hxw).2.2.1
            have f2 := (HZ.out _ hxw).2.2.2
            clear hj
            go_simp
            try go_bits
            first | rfl | (rw [if_pos (by omega), if_pos (by omega)]; go_simp; rfl) | (rw [if_pos (by omega)]; go_simp; rfl) | skip
          · have l0 := (HZ.out _ hxw).1.1
            have l1 := (HZ.out _ hxw).1.2.1
            have l2 := (HZ.out _ hxw).1.2.2
            have f0 := (HZ.out _ hxw).2.1
            have f1 := (HZ.out _ hxw).2.2.1
            have f2 := (HZ.out _ hxw).2.2.2
            clear hj
            go_simp
            try go_bits
            first | rfl | (rw [if_pos (by omega), if_pos (by omega)]; go_simp; rfl) | (rw [if_pos (by omega)]; go_simp; rfl) | skip
          · have l0 := (HZ.out _ hxw).1.1
            have l1 := (HZ.out _ hxw).1.2.1
            have l2 := (HZ.out _ hxw).1.2.2
            have f0 := (HZ.out _ hxw).2.1
            have f1 := (HZ.out _ hxw).2.2.1
            have f2 := (HZ.out _ hxw).2.2.2
            clear hj
            go_simp
            try go_bits
            first | rfl | (rw [if_pos (by omega), if_pos (by omega)]; go_simp; rfl) | (rw [if_pos (by omega)]; go_simp; rfl) | skip
          · have l0 := (HZ.out _ hxw).1.1
            have l1 := (HZ.out _ hxw).1.2.1
            have l2 := (HZ.out _ hxw).1.2.2
            have f0 := (HZ.out _ hxw).2.1
            have f1 := (HZ.out _ hxw).2.2.1
            have f2 := (HZ.out _ hxw).2.2.2
            clear hj
            go_simp
            try go_bits
            first | rfl | (rw [if_pos (by omega), if_pos (by omega)]; go_simp; rfl) | (rw [if_pos (by omega)]; go_simp; rfl) | skip
          · have l0 := (HZ.out _ hxw).1.1
            have l1 := (HZ.out _ hxw).1.2.1
            have l2 := (HZ.out _ hxw).1.2.2
            have f0 := (HZ.out _ hxw).2.1
            have f1 := (HZ.out _ hxw).2.2.1
            have f2 := (HZ.out _ hxw).2.2.2
            clear hj
            go_simp
            try go_bits
            first | rfl | (rw [if_pos (by omega), if_pos (by omega)]; go_simp; rfl) | (rw [if_pos (by omega)]; go_simp; rfl) | skip
          · have l0 := (HZ.out _ hxw).1.1
            have l1 := (HZ.out _ hxw).1.2.1
            have l2 := (HZ.out _ hxw).1.2.2
            have f0 := (HZ.out _ hxw).2.1
            have f1 := (HZ.out _ hxw).2.2.1
            have f2 := (HZ.out _ hxw).2.2.2
            clear hj
            go_simp
            try go_bits
            first | rfl | (rw [if_pos (by omega), if_pos (by omega)]; go_simp; rfl) | (rw [if_pos (by omega)]; go_simp; rfl) | skip
          · have l0 := (HZ.out _ hxw).1.1
            have l1 := (HZ.out _ hxw).1.2.1
            have l2 := (HZ.out _ hxw).1.2.2
            have f0 := (HZ.out _ hxw).2.1
            have f1 := (HZ.out _ hxw).2.2.1
            have f2 := (HZ.out _ hxw).2.2.2
            clear hj
            go_simp
            try go_bits
            first | rfl | (rw [if_pos (by omega), if_pos (by omega)]; go_simp; rfl) | (rw [if_pos (by omega)]; go_simp; rfl) | skip
          · have l0 := (HZ.out _ hxw).1.1
            have l1 := (HZ.out _ hxw).1.2.1
            have l2 := (HZ.out _ hxw).1.2.2
            have f0 := (HZ.out _ hxw).2.1
            have f1 := (HZ.out _ hxw).2.2.1
            have f2 := (HZ.out _ hxw).2.2.2
            clear hj
            go_simp
            try go_bits
            first | rfl | (rw [if_pos (by omega), if_pos (by omega)]; go_simp; rfl) | (rw [if_pos (by omega)]; go_simp; rfl) | skip
          · have l0 := (HZ.out _ hxw).1.1
            have l1 := (HZ.out _ hxw).1.2.1
            have l2 := (HZ.out _ hxw).1.2.2
            have f0 := (HZ.out _ hxw).2.1
            have f1 := (HZ.out _ hxw).2.2.1
            have f2 := (HZ.out _ hxw).2.2.2
            clear hj
            go_simp
            try go_bits
            first | rfl | (rw [if_pos (by omega), if_pos (by omega)]; go_simp; rfl) | (rw [if_pos (by omega)]; go_simp; rfl) | skip
          · have l0 := (HZ.out _ hxw).1.1
            have l1 := (HZ.out _ hxw).1.2.1
            have l2 := (HZ.out _ hxw).1.2.2
            have f0 := (HZ.out _ hxw).2.1
            have f1 := (HZ.out _ hxw).2.2.1
            have f2 := (HZ.out _ hxw).2.2.2
            clear hj
            go_simp
            try go_bits
            first | rfl | (rw [if_pos (by omega), if_pos (by omega)]; go_simp; rfl) | (rw [if_pos (by omega)]; go_simp; rfl) | skip
          · have l0 := (HZ.out _ hxw).1.1
            have l1 := (HZ.out _ hxw).1.2.1
            have l2 := (HZ.out _ hxw).1.2.2
            have f0 := (HZ.out _ hxw).2.1
            have f1 := (HZ.out _ hxw).2.2.1
            have f2 := (HZ.out _ hxw).2.2.2
            clear hj
            go_simp
            try go_bits
            first | rfl | (rw [if_pos (by omega), if_pos (by omega)]; go_simp; rfl) | (rw [if_pos (by omega)]; go_simp; rfl) | skip
          · have l0 := (HZ.out _ hxw).1.1
            have l1 := (HZ.out _ hxw).1.2.1
            have l2 := (HZ.out _ hxw).1.2.2
            have f0 := (HZ.out _ hxw).2.1
            have f1 := (HZ.out _ hxw).2.2.1
            have f2 := (HZ.out _ hxw).2.2.2
            clear hj
            go_simp
            try go_bits
            first | rfl | (rw [if_pos (by omega), if_pos (by omega)]; go_simp; rfl) | (rw [if_pos (by omega)]; go_simp; rfl) | skip
          · have l0 := (HZ.out _ hxw).1.1
            have l1 := (HZ.out _ hxw).1.2.1
            have l2 := (HZ.out _ hxw).1.2.2
            have f0 := (HZ.out _ hxw).2.1
            have f1 := (HZ.out _ hxw).2.2.1
            have f2 := (HZ.out _ hxw).2.2.2
            clear hj
            go_simp
            try go_bits
            first | rfl | (rw [if_pos (by omega), if_pos (by omega)]; go_simp; rfl) | (rw [if_pos (by omega)]; go_simp; rfl) | skip
          · have l0 := (HZ.out _ hxw).1.1
            have l1 := (HZ.out _ hxw).1.2.1
            have l2 := (HZ.out _ hxw).1.2.2
            have f0 := (HZ.out _ hxw).2.1
            have f1 := (HZ.out _ hxw).2.2.1
            have f2 := (HZ.out _ hxw).2.2.2
            clear hj
            go_simp
            try go_bits
            first | rfl | (rw [if_pos (by omega), if_pos (by omega)]; go_simp; rfl) | (rw [if_pos (by omega)]; go_simp; rfl) | skip
          · have l0 := (HZ.out _ hxw).1.1
            have l1 := (HZ.out _ hxw).1.2.1
            have l2 := (HZ.out _ hxw).1.2.2
            have f0 := (HZ.out _ hxw).2.1
            have f1 := (HZ.out _ hxw).2.2.1
            have f2 := (HZ.out _ hxw).2.2.2
            clear hj
            go_simp
            try go_bits
            first | rfl | (rw [if_pos (by omega), if_pos (by omega)]; go_simp; rfl) | (rw [if_pos (by omega)]; go_simp; rfl) | skip
          · have l0 := (HZ.out _ hxw).1.1
            have l1 := (HZ.out _ hxw).1.2.1
            have l2 := (HZ.out _ hxw).1.2.2
            have f0 := (HZ.out _ hxw).2.1
            have f1 := (HZ.out _ hxw).2.2.1
            have f2 := (HZ.out _ hxw).2.2.2
            clear hj
            go_simp
            try go_bits
            first | rfl | (rw [if_pos (by omega), if_pos (by omega)]; go_simp; rfl) | (rw [if_pos (by omega)]; go_simp; rfl) | skip
          · have l0 := (HZ.out _ hxw).1.1
            have l1 := (HZ.out _ hxw).1.2.1
            have l2 := (HZ.out _ hxw).1.2.2
            have f0 := (HZ.out _ hxw).2.1
            have f1 := (HZ.out _ hxw).2.2.1
            have f2 := (HZ.out _ hxw).2.2.2
            clear hj
            go_simp
            try go_bits
            first | rfl | (rw [if_pos (by omega), if_pos (by omega)]; go_simp; rfl) | (rw [if_pos (by omega)]; go_simp; rfl) | skip
          · have l0 := (HZ.out _ hxw).1.1
            have l1 := (HZ.out _ hxw).1.2.1
            have l2 := (HZ.out _ hxw).1.2.2
            have f0 := (HZ.out _ hxw).2.1
            have f1 := (HZ.out _ hxw).2.2.1
            have f2 := (HZ.out _ hxw).2.2.2
            clear hj
            go_simp
            try go_bits
            first | rfl | (rw [if_pos (by omega), if_pos (by omega)]; go_simp; rfl) | (rw [if_pos (by omega)]; go_simp; rfl) | skip
          · have l0 := (HZ.out _ hxw).1.1
            have l1 := (HZ.out _ hxw).1.2.1
            have l2 := (HZ.out _ hxw).1.2.2
            have f0 := (HZ.out _ hxw).2.1
            have f1 := (HZ.out _ hxw).2.2.1
            have f2 := (HZ.out _ hxw).2.2.2
            clear hj
            go_simp
            try go_bits
            first | rfl | (rw [if_pos (by omega), if_pos (by omega)]; go_simp; rfl) | (rw [if_pos (by omega)]; go_simp; rfl) | skip
          · have l0 := (HZ.out _ hxw).1.1
            have l1 := (HZ.out _ hxw).1.2.1
            have l2 := (HZ.out _ hxw).1.2.2
            have f0 := (HZ.out _ hxw).2.1
            have f1 := (HZ.out _ hxw).2.2.1
            have f2 := (HZ.out _ hxw).2.2.2
            clear hj
            go_simp
            try go_bits
            first | rfl | (rw [if_pos (by omega), if_pos (by omega)]; go_simp; rfl) | (rw [if_pos (by omega)]; go_simp; rfl) | skip
          · have l0 := (HZ.out _ hxw).1.1
            have l1 := (HZ.out _ hxw).1.2.1
            have l2 := (HZ.out _ hxw).1.2.2
            have f0 := (HZ.out _ hxw).2.1
            have f1 := (HZ.out _ hxw).2.2.1
            have f2 := (HZ.out _ hxw).2.2.2
            clear hj
            go_simp
            try go_bits
            first | rfl | (rw [if_pos (by omega), if_pos (by omega)]; go_simp; rfl) | (rw [if_pos (by omega)]; go_simp; rfl) | skip
          · have l0 := (HZ.out _ hxw).1.1
            have l1 := (HZ.out _ hxw).1.2.1
            have l2 := (HZ.out _ hxw).1.2.2
            have f0 := (HZ.out _ hxw).2.1
            have f1 := (HZ.out _ hxw).2.2.1
            have f2 := (HZ.out _ hxw).2.2.2
            clear hj
            go_simp
            try go_bits
            first | rfl | (rw [if_pos (by omega), if_pos (by omega)]; go_simp; rfl) | (rw [if_pos (by omega)]; go_simp; rfl) | skip
          · have l0 := (HZ.out _ hxw).1.1
            have l1 := (HZ.out _ hxw).1.2.1
            have l2 := (HZ.out _ hxw).1.2.2
            have f0 := (HZ.out _ hxw).2.1
            have f1 := (HZ.out _ hxw).2.2.1
            have f2 := (HZ.out _ hxw).2.2.2
            clear hj
            go_simp
            try go_bits
            first | rfl | (rw [if_pos (by omega), if_pos (by omega)]; go_simp; rfl) | (rw [if_pos (by omega)]; go_simp; rfl) | skip
          · have l0 := (HZ.out _ hxw).1.1
            have l1 := (HZ.out _ hxw).1.2.1
            have l2 := (HZ.out _ hxw).1.2.2
            have f0 := (HZ.out _ hxw).2.1
            have f1 := (HZ.out _ hxw).2.2.1
            have f2 := (HZ.out _ hxw).2.2.2
            clear hj
            go_simp
            try go_bits
            first | rfl | (rw [if_pos (by omega), if_pos (by omega)]; go_simp; rfl) | (rw [if_pos (by omega)]; go_simp; rfl) | skip
          · have l0 := (HZ.out _ hxw).1.1
            have l1 := (HZ.out _ hxw).1.2.1
            have l2 := (HZ.out _ hxw).1.2.2
            have f0 := (HZ.out _ hxw).2.1
            have f1 := (HZ.out _ hxw).2.2.1
            have f2 := (HZ.out _ hxw).2.2.2
            clear hj
            go_simp
            try go_bits
            first | rfl | (rw [if_pos (by omega), if_pos (by omega)]; go_simp; rfl) | (rw [if_pos (by omega)]; go_simp; rfl) | skip
          · have l0 := (HZ.out _ hxw).1.1
            have l1 := (HZ.out _ hxw).1.2.1
            have l2 := (HZ.out _ hxw).1.2.2
            have f0 := (HZ.out _ hxw).2.1
            have f1 := (HZ.out _ hxw).2.2.1
            have f2 := (HZ.out _ hxw).2.2.2
            clear hj
            go_simp
            try go_bits
            first | rfl | (rw [if_pos (by omega), if_pos (by omega)]; go_simp; rfl) | (rw [if_pos (by omega)]; go_simp; rfl) | skip
          · have l0 := (HZ.out _ hxw).1.1
            have l1 := (HZ.out _ hxw).1.2.1
            have l2 := (HZ.out _ hxw).1.2.2
            have f0 := (HZ.out _ hxw).2.1
            have f1 := (HZ.out _ hxw).2.2.1
            have f2 := (HZ.out _ hxw).2.2.2
            clear hj
            go_simp
            try go_bits
            first | rfl | (rw [if_pos (by omega), if_pos (by omega)]; go_simp; rfl) | (rw [if_pos (by omega)]; go_simp; rfl) | skip
          · have l0 := (HZ.out _ hxw).1.1
            have l1 := (HZ.out _ hxw).1.2.1
            have l2 := (HZ.out _ hxw).1.2.2
            have f0 := (HZ.out _ hxw).2.1
            have f1 := (HZ.out _ hxw).2.2.1
            have f2 := (HZ.out _ hxw).2.2.2
            clear hj
            go_simp
            try go_bits
            first | rfl | (rw [if_pos (by omega), if_pos (by omega)]; go_simp; rfl) | (rw [if_pos (by omega)]; go_simp; rfl) | skip
          · have l0 := (HZ.out _ hxw).1.1
            have l1 := (HZ.out _ hxw).1.2.1
            have l2 := (HZ.out _ hxw).1.2.2
            have f0 := (HZ.out _ hxw).2.1
            have f1 := (HZ.out _ hxw).2.2.1
            have f2 := (HZ.out _ hxw).2.2.2
            clear hj
            go_simp
            try go_bits
            first | rfl | (rw [if_pos (by omega), if_pos (by omega)]; go_simp; rfl) | (rw [if_pos (by omega)]; go_simp; rfl) | skip
          · have l0 := (HZ.out _ hxw).1.1
            have l1 := (HZ.out _ hxw).1.2.1
            have l2 := (HZ.out _ hxw).1.2.2
            have f0 := (HZ.out _ hxw).2.1
            have f1 := (HZ.out _ hxw).2.2.1
            have f2 := (HZ.out _ hxw).2.2.2
            clear hj
            go_simp
            try go_bits
            first | rfl | (rw [if_pos (by omega), if_pos (by omega)]; go_simp; rfl) | (rw [if_pos (by omega)]; go_simp; rfl) | skip
          · have l0 := (HZ.out _ hxw).1.1
            have l1 := (HZ.out _ hxw).1.2.1
            have l2 := (HZ.out _ hxw).1.2.2
            have f0 := (HZ.out _ hxw).2.1
            have f1 := (HZ.out _ hxw).2.2.1
            have f2 := (HZ.out _ hxw).2.2.2
            clear hj
            go_simp
            try go_bits
            first | rfl | (rw [if_pos (by omega), if_pos (by omega)]; go_simp; rfl) | (rw [if_pos (by omega)]; go_simp; rfl) | skip
          · have l0 := (HZ.out _ hxw).1.1
            have l1 := (HZ.out _ hxw).1.2.1
            have l2 := (HZ.out _ hxw).1.2.2
            have f0 := (HZ.out _ hxw).2.1
            have f1 := (HZ.out _ hxw).2.2.1
            have f2 := (HZ.out _ hxw).2.2.2
            clear hj
            go_simp
            try go_bits
            first | rfl | (rw [if_pos (by omega), if_pos (by omega)]; go_simp; rfl) | (rw [if_pos (by omega)]; go_simp; rfl) | skip
          · have l0 := (HZ.out _ hxw).1.1
            have l1 := (HZ.out _ hxw).1.2.1
            have l2 := (HZ.out _ hxw).1.2.2
            have f0 := (HZ.out _ hxw).2.1
            have f1 := (HZ.out _ hxw).2.2.1
            have f2 := (HZ.out _ hxw).2.2.2
            clear hj
            go_simp
            try go_bits
            first | rfl | (rw [if_pos (by omega), if_pos (by omega)]; go_simp; rfl) | (rw [if_pos (by omega)]; go_simp; rfl) | skip
          · have l0 := (HZ.out _ hxw).1.1
            have l1 := (HZ.out _ hxw).1.2.1
            have l2 := (HZ.out _ hxw).1.2.2
            have f0 := (HZ.out _ hxw).2.1
            have f1 := (HZ.out _ hxw).2.2.1
            have f2 := (HZ.out _ hxw).2.2.2
            clear hj
            go_simp
            try go_bits
            first | rfl | (rw [if_pos (by omega), if_pos (by omega)]; go_simp; rfl) | (rw [if_pos (by omega)]; go_simp; rfl) | skip
        case' hx8_1_p =>
          intro vs w8 hx8 hk
          clear hk
          replace E := Ext.trans E hx8
          go_simp
          clear hx8
          go_wp2
          go_ret
          exact ⟨lab_bool HB.out.symm, Ext.trans HP.out.2.2.2 E⟩
      by_cases h2 : S ≤ x
      · skip
        have HB := Lib.hid (isLab_bad (by rw [← HM.out.2.1]; exact hlt) (okAt_arc (L := L) (S := S) HP.out.2.1 (by omega)))
        go_wp2
        have E := Ext.alloc wr (.cells #[.int .i64 x, .int .i64 y, .int .i64 z] 36)
        refine wp_region_inv (by kernel_rfl) (.known ?hx8_2_v0 :: .known ?hx8_2_v1 :: .known ?hx8_2_v2 :: .known ?hx8_2_v3 :: .known ?hx8_2_v4 :: .known ?hx8_2_v5 :: .known ?hx8_2_v6 :: .known ?hx8_2_v7 :: .known ?hx8_2_v8 :: .known ?hx8_2_v9 :: .known ?hx8_2_v10 :: .known ?hx8_2_v11 :: .known ?hx8_2_v12 :: .known ?hx8_2_v13 :: .known ?hx8_2_v14 :: .known ?hx8_2_v15 :: .known ?hx8_2_v16 :: .known ?hx8_2_v17 :: .known ?hx8_2_v18 :: .known ?hx8_2_v19 :: .known ?hx8_2_v20 :: .known ?hx8_2_v21 :: .known ?hx8_2_v22 :: .known ?hx8_2_v23 :: .known ?hx8_2_v24 :: .known ?hx8_2_v25 :: .known ?hx8_2_v26 :: .known ?hx8_2_v27 :: .known ?hx8_2_v28 :: .known ?hx8_2_v29 :: .known ?hx8_2_v30 :: .known ?hx8_2_v31 :: .known ?hx8_2_v32 :: .known ?hx8_2_v33 :: .known ?hx8_2_v34 :: .known ?hx8_2_v35 :: .known ?hx8_2_v36 :: .known ?hx8_2_v37 :: .known ?hx8_2_v38 :: .known ?hx8_2_v39 :: .known ?hx8_2_v40 :: .known ?hx8_2_v41 :: .known ?hx8_2_v42 :: .known ?hx8_2_v43 :: .known ?hx8_2_v44 :: .known ?hx8_2_v45 :: .known ?hx8_2_v46 :: .known ?hx8_2_v47 :: .known ?hx8_2_v48 :: []) rfl (by kernel_rfl) ?hx8_2_s ?hx8_2_p
        case hx8_2_s =>
          intro vs
          refine ⟨fun w' hxw hj => ?_, fun w' hxw hj => ?_, fun w' hxw hj => ?_, fun w' hxw hj => ?_, fun w' hxw hj => ?_, fun w' hxw hj => ?_, fun w' hxw hj => ?_, fun w' hxw hj => ?_, fun w' hxw hj => ?_, fun w' hxw hj => ?_, fun w' hxw hj => ?_, fun w' hxw hj => ?_, fun w' hxw hj => ?_, fun w' hxw hj => ?_, fun w' hxw hj => ?_, fun w' hxw hj => ?_, fun w' hxw hj => ?_, fun w' hxw hj => ?_, fun w' hxw hj => ?_, fun w' hxw hj => ?_, fun w' hxw hj => ?_, fun w' hxw hj => ?_, fun w' hxw hj => ?_, fun w' hxw hj => ?_, fun w' hxw hj => ?_, fun w' hxw hj => ?_, fun w' hxw hj => ?_, fun w' hxw hj => ?_, fun w' hxw hj => ?_, fun w' hxw hj => ?_, fun w' hxw hj => ?_, fun w' hxw hj => ?_, fun w' hxw hj => ?_, fun w' hxw hj => ?_, fun w' hxw hj => ?_, fun w' hxw hj => ?_, fun w' hxw hj => ?_, fun w' hxw hj => ?_, fun w' hxw hj => ?_, fun w' hxw hj => ?_, fun w' hxw hj => ?_, fun w' hxw hj => ?_, fun w' hxw hj => ?_, fun w' hxw hj => ?_, fun w' hxw hj => ?_, fun w' hxw hj => ?_, fun w' hxw hj => ?_, fun w' hxw hj => ?_, fun w' hxw hj => ?_, trivial⟩
          · have l0 := (HZ.out _ hxw).1.1
            have l1 := (HZ.out _ hxw).1.2.1
            have l2 := (HZ.out _ hxw).1.2.2
            have f0 := (HZ.out _ hxw).2.1
            have f1 := (HZ.out _ hxw).2.2.1
            have f2 := (HZ.out _ hxw).2.2.2
            clear hj
            go_simp
            try go_bits
            first | rfl | (rw [if_pos (by omega), if_pos (by omega)]; go_simp; rfl) | (rw [if_pos (by omega)]; go_simp; rfl) | skip
          · have l0 := (HZ.out _ hxw).1.1
            have l1 := (HZ.out _ hxw).1.2.1
            have l2 := (HZ.out _ hxw).1.2.2
            have f0 := (HZ.out _ hxw).2.1
            have f1 := (HZ.out _ hxw).2.2.1
            have f2 := (HZ.out _ hxw).2.2.2
            clear hj
            go_simp
            try go_bits
            first | rfl | (rw [if_pos (by omega), if_pos (by omega)]; go_simp; rfl) | (rw [if_pos (by omega)]; go_simp; rfl) | skip
          · have l0 := (HZ.out _ hxw).1.1
            have l1 := (HZ.out _ hxw).1.2.1
            have l2 := (HZ.out _ hxw).1.2.2
            have f0 := (HZ.out _ hxw).2.1
            have f1 := (HZ.out _ hxw).2.2.1
            have f2 := (HZ.out _ hxw).2.2.2
            clear hj
            go_simp
            try go_bits
            first | rfl | (rw [if_pos (by omega), if_pos (by omega)]; go_simp; rfl) | (rw [if_pos (by omega)]; go_simp; rfl) | skip
          · have l0 := (HZ.out _ hxw).1.1
            have l1 := (HZ.out _ hxw).1.2.1
            have l2 := (HZ.out _ hxw).1.2.2
            have f0 := (HZ.out _ hxw).2.1
            have f1 := (HZ.out _ hxw).2.2.1
            have f2 := (HZ.out _ hxw).2.2.2
            clear hj
            go_simp
            try go_bits
            first | rfl | (rw [if_pos (by omega), if_pos (by omega)]; go_simp; rfl) | (rw [if_pos (by omega)]; go_simp; rfl) | skip
          · have l0 := (HZ.out _ hxw).1.1
            have l1 := (HZ.out _ hxw).1.2.1
            have l2 := (HZ.out _ hxw).1.2.2
            have f0 := (HZ.out _ hxw).2.1
            have f1 := (HZ.out _ hxw).2.2.1
            have f2 := (HZ.out _ hxw).2.2.2
            clear hj
            go_simp
            try go_bits
            first | rfl | (rw [if_pos (by omega), if_pos (by omega)]; go_simp; rfl) | (rw [if_pos (by omega)]; go_simp; rfl) | skip
          · have l0 := (HZ.out _ hxw).1.1
            have l1 := (HZ.out _ hxw).1.2.1
            have l2 := (HZ.out _ hxw).1.2.2
            have f0 := (HZ.out _ hxw).2.1
            have f1 := (HZ.out _ hxw).2.2.1
            have f2 := (HZ.out _ hxw).2.2.2
            clear hj
            go_simp
            try go_bits
            first | rfl | (rw [if_pos (by omega), if_pos (by omega)]; go_simp; rfl) | (rw [if_pos (by omega)]; go_simp; rfl) | skip
          · have l0 := (HZ.out _ hxw).1.1
            have l1 := (HZ.out _ hxw).1.2.1
            have l2 := (HZ.out _ hxw).1.2.2
            have f0 := (HZ.out _ hxw).2.1
            have f1 := (HZ.out _ hxw).2.2.1
            have f2 := (HZ.out _ hxw).2.2.2
            clear hj
            go_simp
            try go_bits
            first | rfl | (rw [if_pos (by omega), if_pos (by omega)]; go_simp; rfl) | (rw [if_pos (by omega)]; go_simp; rfl) | skip
          · have l0 := (HZ.out _ hxw).1.1
            have l1 := (HZ.out _ hxw).1.2.1
            have l2 := (HZ.out _ hxw).1.2.2
            have f0 := (HZ.out _ hxw).2.1
            have f1 := (HZ.out _ hxw).2.2.1
            have f2 := (HZ.out _ hxw).2.2.2
            clear hj
            go_simp
            try go_bits
            first | rfl | (rw [if_pos (by omega), if_pos (by omega)]; go_simp; rfl) | (rw [if_pos (by omega)]; go_simp; rfl) | skip
          · have l0 := (HZ.out _ hxw).1.1
            have l1 := (HZ.out _ hxw).1.2.1
            have l2 := (HZ.out _ hxw).1.2.2
            have f0 := (HZ.out _ hxw).2.1
            have f1 := (HZ.out _ hxw).2.2.1
            have f2 := (HZ.out _ hxw).2.2.2
            clear hj
            go_simp
            try go_bits
            first | rfl | (rw [if_pos (by omega), if_pos (by omega)]; go_simp; rfl) | (rw [if_pos (by omega)]; go_simp; rfl) | skip
          · have l0 := (HZ.out _ hxw).1.1
            have l1 := (HZ.out _ hxw).1.2.1
            have l2 := (HZ.out _ hxw).1.2.2
            have f0 := (HZ.out _ hxw).2.1
            have f1 := (HZ.out _ hxw).2.2.1
            have f2 := (HZ.out _ hxw).2.2.2
            clear hj
            go_simp
            try go_bits
            first | rfl | (rw [if_pos (by omega), if_pos (by omega)]; go_simp; rfl) | (rw [if_pos (by omega)]; go_simp; rfl) | skip
          · have l0 := (HZ.out _ hxw).1.1
            have l1 := (HZ.out _ hxw).1.2.1
            have l2 := (HZ.out _ hxw).1.2.2
            have f0 := (HZ.out _ hxw).2.1
            have f1 := (HZ.out _ hxw).2.2.1
            have f2 := (HZ.out _ hxw).2.2.2
            clear hj
            go_simp
            try go_bits
            first | rfl | (rw [if_pos (by omega), if_pos (by omega)]; go_simp; rfl) | (rw [if_pos (by omega)]; go_simp; rfl) | skip
          · have l0 := (HZ.out _ hxw).1.1
            have l1 := (HZ.out _ hxw).1.2.1
            have l2 := (HZ.out _ hxw).1.2.2
            have f0 := (HZ.out _ hxw).2.1
            have f1 := (HZ.out _ hxw).2.2.1
            have f2 := (HZ.out _ hxw).2.2.2
            clear hj
            go_simp
            try go_bits
            first | rfl | (rw [if_pos (by omega), if_pos (by omega)]; go_simp; rfl) | (rw [if_pos (by omega)]; go_simp; rfl) | skip
          · have l0 := (HZ.out _ hxw).1.1
            have l1 := (HZ.out _ hxw).1.2.1
            have l2 := (HZ.out _ hxw).1.2.2
            have f0 := (HZ.out _ hxw).2.1
            have f1 := (HZ.out _ hxw).2.2.1
            have f2 := (HZ.out _ hxw).2.2.2
            clear hj
            go_simp
            try go_bits
            first | rfl | (rw [if_pos (by omega), if_pos (by omega)]; go_simp; rfl) | (rw [if_pos (by omega)]; go_simp; rfl) | skip
          · have l0 := (HZ.out _ hxw).1.1
            have l1 := (HZ.out _ hxw).1.2.1
            have l2 := (HZ.out _ hxw).1.2.2
            have f0 := (HZ.out _ hxw).2.1
            have f1 := (HZ.out _ hxw).2.2.1
            have f2 := (HZ.out _ hxw).2.2.2
            clear hj
            go_simp
            try go_bits
            first | rfl | (rw [if_pos (by omega), if_pos (by omega)]; go_simp; rfl) | (rw [if_pos (by omega)]; go_simp; rfl) | skip
          · have l0 := (HZ.out _ hxw).1.1
            have l1 := (HZ.out _ hxw).1.2.1
            have l2 := (HZ.out _ hxw).1.2.2
            have f0 := (HZ.out _ hxw).2.1
            have f1 := (HZ.out _ hxw).2.2.1
            have f2 := (HZ.out _ hxw).2.2.2
            clear hj
            go_simp
            try go_bits
            first | rfl | (rw [if_pos (by omega), if_pos (by omega)]; go_simp; rfl) | (rw [if_pos (by omega)]; go_simp; rfl) | skip
          · have l0 := (HZ.out _ hxw).1.1
            have l1 := (HZ.out _ hxw).1.2.1
            have l2 := (HZ.out _ hxw).1.2.2
            have f0 := (HZ.out _ hxw).2.1
            have f1 := (HZ.out _ hxw).2.2.1
            have f2 := (HZ.out _ hxw).2.2.2
            clear hj
            go_simp
            try go_bits
            first | rfl | (rw [if_pos (by omega), if_pos (by omega)]; go_simp; rfl) | (rw [if_pos (by omega)]; go_simp; rfl) | skip
          · have l0 := (HZ.out _ hxw).1.1
            have l1 := (HZ.out _ hxw).1.2.1
            have l2 := (HZ.out _ hxw).1.2.2
            have f0 := (HZ.out _ hxw).2.1
            have f1 := (HZ.out _ hxw).2.2.1
            have f2 := (HZ.out _ hxw).2.2.2
            clear hj
            go_simp
            try go_bits
            first | rfl | (rw [if_pos (by omega), if_pos (by omega)]; go_simp; rfl) | (rw [if_pos (by omega)]; go_simp; rfl) | skip
          · have l0 := (HZ.out _ hxw).1.1
            have l1 := (HZ.out _ hxw).1.2.1
            have l2 := (HZ.out _ hxw).1.2.2
            have f0 := (HZ.out _ hxw).2.1
            have f1 := (HZ.out _ hxw).2.2.1
            have f2 := (HZ.out _ hxw).2.2.2
            clear hj
            go_simp
            try go_bits
            first | rfl | (rw [if_pos (by omega), if_pos (by omega)]; go_simp; rfl) | (rw [if_pos (by omega)]; go_simp; rfl) | skip
          · have l0 := (HZ.out _ hxw).1.1
            have l1 := (HZ.out _ hxw).1.2.1
            have l2 := (HZ.out _ hxw).1.2.2
            have f0 := (HZ.out _ hxw).2.1
            have f1 := (HZ.out _ hxw).2.2.1
            have f2 := (HZ.out _ hxw).2.2.2
            clear hj
            go_simp
            try go_bits
            first | rfl | (rw [if_pos (by omega), if_pos (by omega)]; go_simp; rfl) | (rw [if_pos (by omega)]; go_simp; rfl) | skip
          · have l0 := (HZ.out _ hxw).1.1
            have l1 := (HZ.out _ hxw).1.2.1
            have l2 := (HZ.out _ hxw).1.2.2
            have f0 := (HZ.out _ hxw).2.1
            have f1 := (HZ.out _ hxw).2.2.1
            have f2 := (HZ.out _ hxw).2.2.2
            clear hj
            go_simp
            try go_bits
            first | rfl | (rw [if_pos (by omega), if_pos (by omega)]; go_simp; rfl) | (rw [if_pos (by omega)]; go_simp; rfl) | skip
          · have l0 := (HZ.out _ hxw).1.1
            have l1 := (HZ.out _ hxw).1.2.1
            have l2 := (HZ.out _ hxw).1.2.2
            have f0 := (HZ.out _ hxw).2.1
            have f1 := (HZ.out _ hxw).2.2.1
            have f2 := (HZ.out _ hxw).2.2.2
            clear hj
            go_simp
            try go_bits
            first | rfl | (rw [if_pos (by omega), if_pos (by omega)]; go_simp; rfl) | (rw [if_pos (by omega)]; go_simp; rfl) | skip
          · have l0 := (HZ.out _ hxw).1.1
            have l1 := (HZ.out _ hxw).1.2.1
            have l2 := (HZ.out _ hxw).1.2.2
            have f0 := (HZ.out _ hxw).2.1
            have f1 := (HZ.out _ hxw).2.2.1
            have f2 := (HZ.out _ hxw).2.2.2
            clear hj
            go_simp
            try go_bits
            first | rfl | (rw [if_pos (by omega), if_pos (by omega)]; go_simp; rfl) | (rw [if_pos (by omega)]; go_simp; rfl) | skip
          · have l0 := (HZ.out _ hxw).1.1
            have l1 := (HZ.out _ hxw).1.2.1
            have l2 := (HZ.out _ hxw).1.2.2
            have f0 := (HZ.out _ hxw).2.1
            have f1 := (HZ.out _ hxw).2.2.1
            have f2 := (HZ.out _ hxw).2.2.2
            clear hj
            go_simp
            try go_bits
            first | rfl | (rw [if_pos (by omega), if_pos (by omega)]; go_simp; rfl) | (rw [if_pos (by omega)]; go_simp; rfl) | skip
          · have l0 := (HZ.out _ hxw).1.1
            have l1 := (HZ.out _ hxw).1.2.1
            have l2 := (HZ.out _ hxw).1.2.2
            have f0 := (HZ.out _ hxw).2.1
            have f1 := (HZ.out _ hxw).2.2.1
            have f2 := (HZ.out _ hxw).2.2.2
            clear hj
            go_simp
            try go_bits
            first | rfl | (rw [if_pos (by omega), if_pos (by omega)]; go_simp; rfl) | (rw [if_pos (by omega)]; go_simp; rfl) | skip
          · have l0 := (HZ.out _ hxw).1.1
            have l1 := (HZ.out _ hxw).1.2.1
            have l2 := (HZ.out _ hxw).1.2.2
            have f0 := (HZ.out _ hxw).2.1
            have f1 := (HZ.out _ hxw).2.2.1
            have f2 := (HZ.out _ hxw).2.2.2
            clear hj
            go_simp
            try go_bits
            first | rfl | (rw [if_pos (by omega), if_pos (by omega)]; go_simp; rfl) | (rw [if_pos (by omega)]; go_simp; rfl) | skip
          · have l0 := (HZ.out _ hxw).1.1
            have l1 := (HZ.out _ hxw).1.2.1
            have l2 := (HZ.out _ hxw).1.2.2
            have f0 := (HZ.out _ hxw).2.1
            have f1 := (HZ.out _ hxw).2.2.1
            have f2 := (HZ.out _ hxw).2.2.2
            clear hj
            go_simp
            try go_bits
            first | rfl | (rw [if_pos (by omega), if_pos (by omega)]; go_simp; rfl) | (rw [if_pos (by omega)]; go_simp; rfl) | skip
          · have l0 := (HZ.out _ hxw).1.1
            have l1 := (HZ.out _ hxw).1.2.1
            have l2 := (HZ.out _ hxw).1.2.2
            have f0 := (HZ.out _ hxw).2.1
            have f1 := (HZ.out _ hxw).2.2.1
            have f2 := (HZ.out _ hxw).2.2.2
            clear hj
            go_simp
            try go_bits
            first | rfl | (rw [if_pos (by omega), if_pos (by omega)]; go_simp; rfl) | (rw [if_pos (by omega)]; go_simp; rfl) | skip
          · have l0 := (HZ.out _ hxw).1.1
            have l1 := (HZ.out _ hxw).1.2.1
            have l2 := (HZ.out _ hxw).1.2.2
            have f0 := (HZ.out _ hxw).2.1
            have f1 := (HZ.out _ hxw).2.2.1
            have f2 := (HZ.out _ hxw).2.2.2
            clear hj
            go_simp
            try go_bits
            first | rfl | (rw [if_pos (by omega), if_pos (by omega)]; go_simp; rfl) | (rw [if_pos (by omega)]; go_simp; rfl) | skip
          · have l0 := (HZ.out _ hxw).1.1
            have l1 := (HZ.out _ hxw).1.2.1
            have l2 := (HZ.out _ hxw).1.2.2
            have f0 := (HZ.out _ hxw).2.1
            have f1 := (HZ.out _ hxw).2.2.1
            have f2 := (HZ.out _ hxw).2.2.2
            clear hj
            go_simp
            try go_bits
            first | rfl | (rw [if_pos (by omega), if_pos (by omega)]; go_simp; rfl) | (rw [if_pos (by omega)]; go_simp; rfl) | skip
          · have l0 := (HZ.out _ hxw).1.1
            have l1 := (HZ.out _ hxw).1.2.1
            have l2 := (HZ.out _ hxw).1.2.2
            have f0 := (HZ.out _ hxw).2.1
            have f1 := (HZ.out _ hxw).2.2.1
            have f2 := (HZ.out _ hxw).2.2.2
            clear hj
            go_simp
            try go_bits
            first | rfl | (rw [if_pos (by omega), if_pos (by omega)]; go_simp; rfl) | (rw [if_pos (by omega)]; go_simp; rfl) | skip
          · have l0 := (HZ.out _ hxw).1.1
            have l1 := (HZ.out _ hxw).1.2.1
            have l2 := (HZ.out _ hxw).1.2.2
            have f0 := (HZ.out _ hxw).2.1
            have f1 := (HZ.out _ hxw).2.2.1
            have f2 := (HZ.out _ hxw).2.2.2
            clear hj
            go_simp
            try go_bits
            first | rfl | (rw [if_pos (by omega), if_pos (by omega)]; go_simp; rfl) | (rw [if_pos (by omega)]; go_simp; rfl) | skip
          · have l0 := (HZ.out _ hxw).1.1
            have l1 := (HZ.out _ hxw).1.2.1
            have l2 := (HZ.out _ hxw).1.2.2
            have f0 := (HZ.out _ hxw).2.1
            have f1 := (HZ.out _ hxw).2.2.1
            have f2 := (HZ.out _ hxw).2.2.2
            clear hj
            go_simp
            try go_bits
            first | rfl | (rw [if_pos (by omega), if_pos (by omega)]; go_simp; rfl) | (rw [if_pos (by omega)]; go_simp; rfl) | skip
          · have l0 := (HZ.out _ hxw).1.1
            have l1 := (HZ.out _ hxw).1.2.1
            have l2 := (HZ.out _ hxw).1.2.2
            have f0 := (HZ.out _ hxw).2.1
            have f1 := (HZ.out _ hxw).2.2.1
            have f2 := (HZ.out _ hxw).2.2.2
            clear hj
            go_simp
            try go_bits
            first | rfl | (rw [if_pos (by omega), if_pos (by omega)]; go_simp; rfl) | (rw [if_pos (by omega)]; go_simp; rfl) | skip
          · have l0 := (HZ.out _ hxw).1.1
            have l1 := (HZ.out _ hxw).1.2.1
            have l2 := (HZ.out _ hxw).1.2.2
            have f0 := (HZ.out _ hxw).2.1
            have f1 := (HZ.out _ hxw).2.2.1
            have f2 := (HZ.out _ hxw).2.2.2
            clear hj
            go_simp
            try go_bits
            first | rfl | (rw [if_pos (by omega), if_pos (by omega)]; go_simp; rfl) | (rw [if_pos (by omega)]; go_simp; rfl) | skip
          · have l0 := (HZ.out _ hxw).1.1
            have l1 := (HZ.out _ hxw).1.2.1
            have l2 := (HZ.out _ hxw).1.2.2
            have f0 := (HZ.out _ hxw).2.1
            have f1 := (HZ.out _ hxw).2.2.1
            have f2 := (HZ.out _ hxw).2.2.2
            clear hj
            go_simp
            try go_bits
            first | rfl | (rw [if_pos (by omega), if_pos (by omega)]; go_simp; rfl) | (rw [if_pos (by omega)]; go_simp; rfl) | skip
          · have l0 := (HZ.out _ hxw).1.1
            have l1 := (HZ.out _ hxw).1.2.1
            have l2 := (HZ.out _ hxw).1.2.2
            have f0 := (HZ.out _ hxw).2.1
            have f1 := (HZ.out _ hxw).2.2.1
            have f2 := (HZ.out _ hxw).2.2.2
            clear hj
            go_simp
            try go_bits
            first | rfl | (rw [if_pos (by omega), if_pos (by omega)]; go_simp; rfl) | (rw [if_pos (by omega)]; go_simp; rfl) | skip
          · have l0 := (HZ.out _ hxw).1.1
            have l1 := (HZ.out _ hxw).1.2.1
            have l2 := (HZ.out _ hxw).1.2.2
            have f0 := (HZ.out _ hxw).2.1
            have f1 := (HZ.out _ hxw).2.2.1
            have f2 := (HZ.out _ hxw).2.2.2
            clear hj
            go_simp
            try go_bits
            first | rfl | (rw [if_pos (by omega), if_pos (by omega)]; go_simp; rfl) | (rw [if_pos (by omega)]; go_simp; rfl) | skip
          · have l0 := (HZ.out _ hxw).1.1
            have l1 := (HZ.out _ hxw).1.2.1
            have l2 := (HZ.out _ hxw).1.2.2
            have f0 := (HZ.out _ hxw).2.1
            have f1 := (HZ.out _ hxw).2.2.1
            have f2 := (HZ.out _ hxw).2.2.2
            clear hj
            go_simp
            try go_bits
            first | rfl | (rw [if_pos (by omega), if_pos (by omega)]; go_simp; rfl) | (rw [if_pos (by omega)]; go_simp; rfl) | skip
          · have l0 := (HZ.out _ hxw).1.1
            have l1 := (HZ.out _ hxw).1.2.1
            have l2 := (HZ.out _ hxw).1.2.2
            have f0 := (HZ.out _ hxw).2.1
            have f1 := (HZ.out _ hxw).2.2.1
            have f2 := (HZ.out _ hxw).2.2.2
            clear hj
            go_simp
            try go_bits
            first | rfl | (rw [if_pos (by omega), if_pos (by omega)]; go_simp; rfl) | (rw [if_pos (by omega)]; go_simp; rfl) | skip
          · have l0 := (HZ.out _ hxw).1.1
            have l1 := (HZ.out _ hxw).1.2.1
            have l2 := (HZ.out _ hxw).1.2.2
            have f0 := (HZ.out _ hxw).2.1
            have f1 := (HZ.out _ hxw).2.2.1
            have f2 := (HZ.out _ hxw).2.2.2
            clear hj
            go_simp
            try go_bits
            first | rfl | (rw [if_pos (by omega), if_pos (by omega)]; go_simp; rfl) | (rw [if_pos (by omega)]; go_simp; rfl) | skip
          · have l0 := (HZ.out _ hxw).1.1
            have l1 := (HZ.out _ hxw).1.2.1
            have l2 := (HZ.out _ hxw).1.2.2
            have f0 := (HZ.out _ hxw).2.1
            have f1 := (HZ.out _ hxw).2.2.1
            have f2 := (HZ.out _ hxw).2.2.2
            clear hj
            go_simp
            try go_bits
            first | rfl | (rw [if_pos (by omega), if_pos (by omega)]; go_simp; rfl) | (rw [if_pos (by omega)]; go_simp; rfl) | skip
          · have l0 := (HZ.out _ hxw).1.1
            have l1 := (HZ.out _ hxw).1.2.1
            have l2 := (HZ.out _ hxw).1.2.2
            have f0 := (HZ.out _ hxw).2.1
            have f1 := (HZ.out _ hxw).2.2.1
            have f2 := (HZ.out _ hxw).2.2.2
            clear hj
            go_simp
            try go_bits
            first | rfl | (rw [if_pos (by omega), if_pos (by omega)]; go_simp; rfl) | (rw [if_pos (by omega)]; go_simp; rfl) | skip
          · have l0 := (HZ.out _ hxw).1.1
            have l1 := (HZ.out _ hxw).1.2.1
            have l2 := (HZ.out _ hxw).1.2.2
            have f0 := (HZ.out _ hxw).2.1
            have f1 := (HZ.out _ hxw).2.2.1
            have f2 := (HZ.out _ hxw).2.2.2
            clear hj
            go_simp
            try go_bits
            first | rfl | (rw [if_pos (by omega), if_pos (by omega)]; go_simp; rfl) | (rw [if_pos (by omega)]; go_simp; rfl) | skip
          · have l0 := (HZ.out _ hxw).1.1
            have l1 := (HZ.out _ hxw).1.2.1
            have l2 := (HZ.out _ hxw).1.2.2
            have f0 := (HZ.out _ hxw).2.1
            have f1 := (HZ.out _ hxw).2.2.1
            have f2 := (HZ.out _ hxw).2.2.2
            clear hj
            go_simp
            try go_bits
            first | rfl | (rw [if_pos (by omega), if_pos (by omega)]; go_simp; rfl) | (rw [if_pos (by omega)]; go_simp; rfl) | skip
          · have l0 := (HZ.out _ hxw).1.1
            have l1 := (HZ.out _ hxw).1.2.1
            have l2 := (HZ.out _ hxw).1.2.2
            have f0 := (HZ.out _ hxw).2.1
            have f1 := (HZ.out _ hxw).2.2.1
            have f2 := (HZ.out _ hxw).2.2.2
            clear hj
            go_simp
            try go_bits
            first | rfl | (rw [if_pos (by omega), if_pos (by omega)]; go_simp; rfl) | (rw [if_pos (by omega)]; go_simp; rfl) | skip
          · have l0 := (HZ.out _ hxw).1.1
            have l1 := (HZ.out _ hxw).1.2.1
            have l2 := (HZ.out _ hxw).1.2.2
            have f0 := (HZ.out _ hxw).2.1
            have f1 := (HZ.out _ hxw).2.2.1
            have f2 := (HZ.out _ hxw).2.2.2
            clear hj
            go_simp
            try go_bits
            first | rfl | (rw [if_pos (by omega), if_pos (by omega)]; go_simp; rfl) | (rw [if_pos (by omega)]; go_simp; rfl) | skip
          · have l0 := (HZ.out _ hxw).1.1
            have l1 := (HZ.out _ hxw).1.2.1
            have l2 := (HZ.out _ hxw).1.2.2
            have f0 := (HZ.out _ hxw).2.1
            have f1 := (HZ.out _ hxw).2.2.1
            have f2 := (HZ.out _ hxw).2.2.2
            clear hj
            go_simp
            try go_bits
            first | rfl | (rw [if_pos (by omega), if_pos (by omega)]; go_simp; rfl) | (rw [if_pos (by omega)]; go_simp; rfl) | skip
          · have l0 := (HZ.out _ hxw).1.1
            have l1 := (HZ.out _ hxw).1.2.1
            have l2 := (HZ.out _ hxw).1.2.2
            have f0 := (HZ.out _ hxw).2.1
            have f1 := (HZ.out _ hxw).2.2.1
            have f2 := (HZ.out _ hxw).2.2.2
            clear hj
            go_simp
            try go_bits
            first | rfl | (rw [if_pos (by omega), if_pos (by omega)]; go_simp; rfl) | (rw [if_pos (by omega)]; go_simp; rfl) | skip
          · have l0 := (HZ.out _ hxw).1.1
            have l1 := (HZ.out _ hxw).1.2.1
            have l2 := (HZ.out _ hxw).1.2.2
            have f0 := (HZ.out _ hxw).2.1
            have f1 := (HZ.out _ hxw).2.2.1
            have f2 := (HZ.out _ hxw).2.2.2
            clear hj
            go_simp
            try go_bits
            first | rfl | (rw [if_pos (by omega), if_pos (by omega)]; go_simp; rfl) | (rw [if_pos (by omega)]; go_simp; rfl) | skip
        case' hx8_2_p =>
          intro vs w8 hx8 hk
          clear hk
          replace E := Ext.trans E hx8
          go_simp
          clear hx8
          go_wp2
          go_ret
          exact ⟨lab_bool HB.out.symm, Ext.trans HP.out.2.2.2 E⟩
      by_cases h3 : y < 0
      · skip
        have HB := Lib.hid (isLab_bad (by rw [← HM.out.2.1]; exact hlt) (okAt_arc (L := L) (S := S) HP.out.2.1 (by omega)))
        go_wp2
        have E := Ext.alloc wr (.cells #[.int .i64 x, .int .i64 y, .int .i64 z] 36)
        refine wp_region_inv (by kernel_rfl) (.known ?hx8_3_v0 :: .known ?hx8_3_v1 :: .known ?hx8_3_v2 :: .known ?hx8_3_v3 :: .known ?hx8_3_v4 :: .known ?hx8_3_v5 :: .known ?hx8_3_v6 :: .known ?hx8_3_v7 :: .known ?hx8_3_v8 :: .known ?hx8_3_v9 :: .known ?hx8_3_v10 :: .known ?hx8_3_v11 :: .known ?hx8_3_v12 :: .known ?hx8_3_v13 :: .known ?hx8_3_v14 :: .known ?hx8_3_v15 :: .known ?hx8_3_v16 :: .known ?hx8_3_v17 :: .known ?hx8_3_v18 :: .known ?hx8_3_v19 :: .known ?hx8_3_v20 :: .known ?hx8_3_v21 :: .known ?hx8_3_v22 :: .known ?hx8_3_v23 :: .known ?hx8_3_v24 :: .known ?hx8_3_v25 :: .known ?hx8_3_v26 :: .known ?hx8_3_v27 :: .known ?hx8_3_v28 :: .known ?hx8_3_v29 :: .known ?hx8_3_v30 :: .known ?hx8_3_v31 :: .known ?hx8_3_v32 :: .known ?hx8_3_v33 :: .known ?hx8_3_v34 :: .known ?hx8_3_v35 :: .known ?hx8_3_v36 :: .known ?hx8_3_v37 :: .known ?hx8_3_v38 :: .known ?hx8_3_v39 :: .known ?hx8_3_v40 :: .known ?hx8_3_v41 :: .known ?hx8_3_v42 :: .known ?hx8_3_v43 :: .known ?hx8_3_v44 :: .known ?hx8_3_v45 :: .known ?hx8_3_v46 :: .known ?hx8_3_v47 :: .known ?hx8_3_v48 :: []) rfl (by kernel_rfl) ?hx8_3_s ?hx8_3_p
        case hx8_3_s =>
          intro vs
          refine ⟨fun w' hxw hj => ?_, fun w' hxw hj => ?_, fun w' hxw hj => ?_, fun w' hxw hj => ?_, fun w' hxw hj => ?_, fun w' hxw hj => ?_, fun w' hxw hj => ?_, fun w' hxw hj => ?_, fun w' hxw hj => ?_, fun w' hxw hj => ?_, fun w' hxw hj => ?_, fun w' hxw hj => ?_, fun w' hxw hj => ?_, fun w' hxw hj => ?_, fun w' hxw hj => ?_, fun w' hxw hj => ?_, fun w' hxw hj => ?_, fun w' hxw hj => ?_, fun w' hxw hj => ?_, fun w' hxw hj => ?_, fun w' hxw hj => ?_, fun w' hxw hj => ?_, fun w' hxw hj => ?_, fun w' hxw hj => ?_, fun w' hxw hj => ?_, fun w' hxw hj => ?_, fun w' hxw hj => ?_, fun w' hxw hj => ?_, fun w' hxw hj => ?_, fun w' hxw hj => ?_, fun w' hxw hj => ?_, fun w' hxw hj => ?_, fun w' hxw hj => ?_, fun w' hxw hj => ?_, fun w' hxw hj => ?_, fun w' hxw hj => ?_, fun w' hxw hj => ?_, fun w' hxw hj => ?_, fun w' hxw hj => ?_, fun w' hxw hj => ?_, fun w' hxw hj => ?_, fun w' hxw hj => ?_, fun w' hxw hj => ?_, fun w' hxw hj => ?_, fun w' hxw hj => ?_, fun w' hxw hj => ?_, fun w' hxw hj => ?_, fun w' hxw hj => ?_, fun w' hxw hj => ?_, trivial⟩
          · have l0 := (HZ.out _ hxw).1.1
            have l1 := (HZ.out _ hxw).1.2.1
            have l2 := (HZ.out _ hxw).1.2.2
            have f0 := (HZ.out _ hxw).2.1
            have f1 := (HZ.out _ hxw).2.2.1
            have f2 := (HZ.out _ hxw).2.2.2
            clear hj
            go_simp
            try go_bits
            first | rfl | (rw [if_pos (by omega), if_pos (by omega)]; go_simp; rfl) | (rw [if_pos (by omega)]; go_simp; rfl) | skip
          · have l0 := (HZ.out _ hxw).1.1
            have l1 := (HZ.out _ hxw).1.2.1
            have l2 := (HZ.out _ hxw).1.2.2
            have f0 := (HZ.out _ hxw).2.1
            have f1 := (HZ.out _ hxw).2.2.1
            have f2 := (HZ.out _ hxw).2.2.2
            clear hj
            go_simp
            try go_bits
            first | rfl | (rw [if_pos (by omega), if_pos (by omega)]; go_simp; rfl) | (rw [if_pos (by omega)]; go_simp; rfl) | skip
          · have l0 := (HZ.out _ hxw).1.1
            have l1 := (HZ.out _ hxw).1.2.1
            have l2 := (HZ.out _ hxw).1.2.2
            have f0 := (HZ.out _ hxw).2.1
            have f1 := (HZ.out _ hxw).2.2.1
            have f2 := (HZ.out _ hxw).2.2.2
            clear hj
            go_simp
            try go_bits
            first | rfl | (rw [if_pos (by omega), if_pos (by omega)]; go_simp; rfl) | (rw [if_pos (by omega)]; go_simp; rfl) | skip
          · have l0 := (HZ.out _ hxw).1.1
            have l1 := (HZ.out _ hxw).1.2.1
            have l2 := (HZ.out _ hxw).1.2.2
            have f0 := (HZ.out _ hxw).2.1
            have f1 := (HZ.out _ hxw).2.2.1
            have f2 := (HZ.out _ hxw).2.2.2
            clear hj
            go_simp
            try go_bits
            first | rfl | (rw [if_pos (by omega), if_pos (by omega)]; go_simp; rfl) | (rw [if_pos (by omega)]; go_simp; rfl) | skip
          · have l0 := (HZ.out _ hxw).1.1
            have l1 := (HZ.out _ hxw).1.2.1
            have l2 := (HZ.out _ hxw).1.2.2
            have f0 := (HZ.out _ hxw).2.1
            have f1 := (HZ.out _ hxw).2.2.1
            have f2 := (HZ.out _ hxw).2.2.2
            clear hj
            go_simp
            try go_bits
            first | rfl | (rw [if_pos (by omega), if_pos (by omega)]; go_simp; rfl) | (rw [if_pos (by omega)]; go_simp; rfl) | skip
          · have l0 := (HZ.out _ hxw).1.1
            have l1 := (HZ.out _ hxw).1.2.1
            have l2 := (HZ.out _ hxw).1.2.2
            have f0 := (HZ.out _ hxw).2.1
            have f1 := (HZ.out _ hxw).2.2.1
            have f2 := (HZ.out _ hxw).2.2.2
            clear hj
            go_simp
            try go_bits
            first | rfl | (rw [if_pos (by omega), if_pos (by omega)]; go_simp; rfl) | (rw [if_pos (by omega)]; go_simp; rfl) | skip
          · have l0 := (HZ.out _ hxw).1.1
            have l1 := (HZ.out _ hxw).1.2.1
            have l2 := (HZ.out _ hxw).1.2.2
            have f0 := (HZ.out _ hxw).2.1
            have f1 := (HZ.out _ hxw).2.2.1
            have f2 := (HZ.out _ hxw).2.2.2
            clear hj
            go_simp
            try go_bits
            first | rfl | (rw [if_pos (by omega), if_pos (by omega)]; go_simp; rfl) | (rw [if_pos (by omega)]; go_simp; rfl) | skip
          · have l0 := (HZ.out _ hxw).1.1
            have l1 := (HZ.out _ hxw).1.2.1
            have l2 := (HZ.out _ hxw).1.2.2
            have f0 := (HZ.out _ hxw).2.1
            have f1 := (HZ.out _ hxw).2.2.1
            have f2 := (HZ.out _ hxw).2.2.2
            clear hj
            go_simp
            try go_bits
            first | rfl | (rw [if_pos (by omega), if_pos (by omega)]; go_simp; rfl) | (rw [if_pos (by omega)]; go_simp; rfl) | skip
          · have l0 := (HZ.out _ hxw).1.1
            have l1 := (HZ.out _ hxw).1.2.1
            have l2 := (HZ.out _ hxw).1.2.2
            have f0 := (HZ.out _ hxw).2.1
            have f1 := (HZ.out _ hxw).2.2.1
            have f2 := (HZ.out _ hxw).2.2.2
            clear hj
            go_simp
            try go_bits
            first | rfl | (rw [if_pos (by omega), if_pos (by omega)]; go_simp; rfl) | (rw [if_pos (by omega)]; go_simp; rfl) | skip
          · have l0 := (HZ.out _ hxw).1.1
            have l1 := (HZ.out _ hxw).1.2.1
            have l2 := (HZ.out _ hxw).1.2.2
            have f0 := (HZ.out _ hxw).2.1
            have f1 := (HZ.out _ hxw).2.2.1
            have f2 := (HZ.out _ hxw).2.2.2
            clear hj
            go_simp
            try go_bits
            first | rfl | (rw [if_pos (by omega), if_pos (by omega)]; go_simp; rfl) | (rw [if_pos (by omega)]; go_simp; rfl) | skip
          · have l0 := (HZ.out _ hxw).1.1
            have l1 := (HZ.out _ hxw).1.2.1
            have l2 := (HZ.out _ hxw).1.2.2
            have f0 := (HZ.out _ hxw).2.1
            have f1 := (HZ.out _ hxw).2.2.1
            have f2 := (HZ.out _ hxw).2.2.2
            clear hj
            go_simp
            try go_bits
            first | rfl | (rw [if_pos (by omega), if_pos (by omega)]; go_simp; rfl) | (rw [if_pos (by omega)]; go_simp; rfl) | skip
          · have l0 := (HZ.out _ hxw).1.1
            have l1 := (HZ.out _ hxw).1.2.1
            have l2 := (HZ.out _ hxw).1.2.2
            have f0 := (HZ.out _ hxw).2.1
            have f1 := (HZ.out _ hxw).2.2.1
            have f2 := (HZ.out _ hxw).2.2.2
            clear hj
            go_simp
            try go_bits
            first | rfl | (rw [if_pos (by omega), if_pos (by omega)]; go_simp; rfl) | (rw [if_pos (by omega)]; go_simp; rfl) | skip
          · have l0 := (HZ.out _ hxw).1.1
            have l1 := (HZ.out _ hxw).1.2.1
            have l2 := (HZ.out _ hxw).1.2.2
            have f0 := (HZ.out _ hxw).2.1
            have f1 := (HZ.out _ hxw).2.2.1
            have f2 := (HZ.out _ hxw).2.2.2
            clear hj
            go_simp
            try go_bits
            first | rfl | (rw [if_pos (by omega), if_pos (by omega)]; go_simp; rfl) | (rw [if_pos (by omega)]; go_simp; rfl) | skip
          · have l0 := (HZ.out _ hxw).1.1
            have l1 := (HZ.out _ hxw).1.2.1
            have l2 := (HZ.out _ hxw).1.2.2
            have f0 := (HZ.out _ hxw).2.1
            have f1 := (HZ.out _ hxw).2.2.1
            have f2 := (HZ.out _ hxw).2.2.2
            clear hj
            go_simp
            try go_bits
            first | rfl | (rw [if_pos (by omega), if_pos (by omega)]; go_simp; rfl) | (rw [if_pos (by omega)]; go_simp; rfl) | skip
          · have l0 := (HZ.out _ hxw).1.1
            have l1 := (HZ.out _ hxw).1.2.1
            have l2 := (HZ.out _ hxw).1.2.2
            have f0 := (HZ.out _ hxw).2.1
            have f1 := (HZ.out _ hxw).2.2.1
            have f2 := (HZ.out _ hxw).2.2.2
            clear hj
            go_simp
            try go_bits
            first | rfl | (rw [if_pos (by omega), if_pos (by omega)]; go_simp; rfl) | (rw [if_pos (by omega)]; go_simp; rfl) | skip
          · have l0 := (HZ.out _ hxw).1.1
            have l1 := (HZ.out _ hxw).1.2.1
            have l2 := (HZ.out _ hxw).1.2.2
            have f0 := (HZ.out _ hxw).2.1
            have f1 := (HZ.out _ hxw).2.2.1
            have f2 := (HZ.out _ hxw).2.2.2
            clear hj
            go_simp
            try go_bits
            first | rfl | (rw [if_pos (by omega), if_pos (by omega)]; go_simp; rfl) | (rw [if_pos (by omega)]; go_simp; rfl) | skip
          · have l0 := (HZ.out _ hxw).1.1
            have l1 := (HZ.out _ hxw).1.2.1
            have l2 := (HZ.out _ hxw).1.2.2
            have f0 := (HZ.out _ hxw).2.1
            have f1 := (HZ.out _ hxw).2.2.1
            have f2 := (HZ.out _ hxw).2.2.2
            clear hj
            go_simp
            try go_bits
            first | rfl | (rw [if_pos (by omega), if_pos (by omega)]; go_simp; rfl) | (rw [if_pos (by omega)]; go_simp; rfl) | skip
          · have l0 := (HZ.out _ hxw).1.1
            have l1 := (HZ.out _ hxw).1.2.1
            have l2 := (HZ.out _ hxw).1.2.2
            have f0 := (HZ.out _ hxw).2.1
            have f1 := (HZ.out _ hxw).2.2.1
            have f2 := (HZ.out _ hxw).2.2.2
            clear hj
            go_simp
            try go_bits
            first | rfl | (rw [if_pos (by omega), if_pos (by omega)]; go_simp; rfl) | (rw [if_pos (by omega)]; go_simp; rfl) | skip
          · have l0 := (HZ.out _ hxw).1.1
            have l1 := (HZ.out _ hxw).1.2.1
            have l2 := (HZ.out _ hxw).1.2.2
            have f0 := (HZ.out _ hxw).2.1
            have f1 := (HZ.out _ hxw).2.2.1
            have f2 := (HZ.out _ hxw).2.2.2
            clear hj
            go_simp
            try go_bits
            first | rfl | (rw [if_pos (by omega), if_pos (by omega)]; go_simp; rfl) | (rw [if_pos (by omega)]; go_simp; rfl) | skip
          · have l0 := (HZ.out _ hxw).1.1
            have l1 := (HZ.out _ hxw).1.2.1
            have l2 := (HZ.out _ hxw).1.2.2
            have f0 := (HZ.out _ hxw).2.1
            have f1 := (HZ.out _ hxw).2.2.1
            have f2 := (HZ.out _ hxw).2.2.2
            clear hj
            go_simp
            try go_bits
            first | rfl | (rw [if_pos (by omega), if_pos (by omega)]; go_simp; rfl) | (rw [if_pos (by omega)]; go_simp; rfl) | skip
          · have l0 := (HZ.out _ hxw).1.1
            have l1 := (HZ.out _ hxw).1.2.1
            have l2 := (HZ.out _ hxw).1.2.2
            have f0 := (HZ.out _ hxw).2.1
            have f1 := (HZ.out _ hxw).2.2.1
            have f2 := (HZ.out _ hxw).2.2.2
            clear hj
            go_simp
            try go_bits
            first | rfl | (rw [if_pos (by omega), if_pos (by omega)]; go_simp; rfl) | (rw [if_pos (by omega)]; go_simp; rfl) | skip
          · have l0 := (HZ.out _ hxw).1.1
            have l1 := (HZ.out _ hxw).1.2.1
            have l2 := (HZ.out _ hxw).1.2.2
            have f0 := (HZ.out _ hxw).2.1
            have f1 := (HZ.out _ hxw).2.2.1
            have f2 := (HZ.out _ hxw).2.2.2
            clear hj
            go_simp
            try go_bits
            first | rfl | (rw [if_pos (by omega), if_pos (by omega)]; go_simp; rfl) | (rw [if_pos (by omega)]; go_simp; rfl) | skip
          · have l0 := (HZ.out _ hxw).1.1
            have l1 := (HZ.out _ hxw).1.2.1
            have l2 := (HZ.out _ hxw).1.2.2
            have f0 := (HZ.out _ hxw).2.1
            have f1 := (HZ.out _ hxw).2.2.1
            have f2 := (HZ.out _ hxw).2.2.2
            clear hj
            go_simp
            try go_bits
            first | rfl | (rw [if_pos (by omega), if_pos (by omega)]; go_simp; rfl) | (rw [if_pos (by omega)]; go_simp; rfl) | skip
          · have l0 := (HZ.out _ hxw).1.1
            have l1 := (HZ.out _ hxw).1.2.1
            have l2 := (HZ.out _ hxw).1.2.2
            have f0 := (HZ.out _ hxw).2.1
            have f1 := (HZ.out _ hxw).2.2.1
            have f2 := (HZ.out _ hxw).2.2.2
            clear hj
            go_simp
            try go_bits
            first | rfl | (rw [if_pos (by omega), if_pos (by omega)]; go_simp; rfl) | (rw [if_pos (by omega)]; go_simp; rfl) | skip
          · have l0 := (HZ.out _ hxw).1.1
            have l1 := (HZ.out _ hxw).1.2.1
            have l2 := (HZ.out _ hxw).1.2.2
            have f0 := (HZ.out _ hxw).2.1
            have f1 := (HZ.out _ hxw).2.2.1
            have f2 := (HZ.out _ hxw).2.2.2
            clear hj
            go_simp
            try go_bits
            first | rfl | (rw [if_pos (by omega), if_pos (by omega)]; go_simp; rfl) | (rw [if_pos (by omega)]; go_simp; rfl) | skip
          · have l0 := (HZ.out _ hxw).1.1
            have l1 := (HZ.out _ hxw).1.2.1
            have l2 := (HZ.out _ hxw).1.2.2
            have f0 := (HZ.out _ hxw).2.1
            have f1 := (HZ.out _ hxw).2.2.1
            have f2 := (HZ.out _ hxw).2.2.2
            clear hj
            go_simp
            try go_bits
            first | rfl | (rw [if_pos (by omega), if_pos (by omega)]; go_simp; rfl) | (rw [if_pos (by omega)]; go_simp; rfl) | skip
          · have l0 := (HZ.out _ hxw).1.1
            have l1 := (HZ.out _ hxw).1.2.1
            have l2 := (HZ.out _ hxw).1.2.2
            have f0 := (HZ.out _ hxw).2.1
            have f1 := (HZ.out _ hxw).2.2.1
            have f2 := (HZ.out _ hxw).2.2.2
            clear hj
            go_simp
            try go_bits
            first | rfl | (rw [if_pos (by omega), if_pos (by omega)]; go_simp; rfl) | (rw [if_pos (by omega)]; go_simp; rfl) | skip
          · have l0 := (HZ.out _ hxw).1.1
            have l1 := (HZ.out _ hxw).1.2.1
            have l2 := (HZ.out _ hxw).1.2.2
            have f0 := (HZ.out _ hxw).2.1
            have f1 := (HZ.out _ hxw).2.2.1
            have f2 := (HZ.out _ hxw).2.2.2
            clear hj
            go_simp
            try go_bits
            first | rfl | (rw [if_pos (by omega), if_pos (by omega)]; go_simp; rfl) | (rw [if_pos (by omega)]; go_simp; rfl) | skip
          · have l0 := (HZ.out _ hxw).1.1
            have l1 := (HZ.out _ hxw).1.2.1
            have l2 := (HZ.out _ hxw).1.2.2
            have f0 := (HZ.out _ hxw).2.1
            have f1 := (HZ.out _ hxw).2.2.1
            have f2 := (HZ.out _ hxw).2.2.2
            clear hj
            go_simp
            try go_bits
            first | rfl | (rw [if_pos (by omega), if_pos (by omega)]; go_simp; rfl) | (rw [if_pos (by omega)]; go_simp; rfl) | skip
          · have l0 := (HZ.out _ hxw).1.1
            have l1 := (HZ.out _ hxw).1.2.1
            have l2 := (HZ.out _ hxw).1.2.2
            have f0 := (HZ.out _ hxw).2.1
            have f1 := (HZ.out _ hxw).2.2.1
            have f2 := (HZ.out _ hxw).2.2.2
            clear hj
            go_simp
            try go_bits
            first | rfl | (rw [if_pos (by omega), if_pos (by omega)]; go_simp; rfl) | (rw [if_pos (by omega)]; go_simp; rfl) | skip
          · have l0 := (HZ.out _ hxw).1.1
            have l1 := (HZ.out _ hxw).1.2.1
            have l2 := (HZ.out _ hxw).1.2.2
            have f0 := (HZ.out _ hxw).2.1
            have f1 := (HZ.out _ hxw).2.2.1
            have f2 := (HZ.out _ hxw).2.2.2
            clear hj
            go_simp
            try go_bits
            first | rfl | (rw [if_pos (by omega), if_pos (by omega)]; go_simp; rfl) | (rw [if_pos (by omega)]; go_simp; rfl) | skip
          · have l0 := (HZ.out _ hxw).1.1
            have l1 := (HZ.out _ hxw).1.2.1
            have l2 := (HZ.out _ hxw).1.2.2
            have f0 := (HZ.out _ hxw).2.1
            have f1 := (HZ.out _ hxw).2.2.1
            have f2 := (HZ.out _ hxw).2.2.2
            clear hj
            go_simp
            try go_bits
            first | rfl | (rw [if_pos (by omega), if_pos (by omega)]; go_simp; rfl) | (rw [if_pos (by omega)]; go_simp; rfl) | skip
          · have l0 := (HZ.out _ hxw).1.1
            have l1 := (HZ.out _ hxw).1.2.1
            have l2 := (HZ.out _ hxw).1.2.2
            have f0 := (HZ.out _ hxw).2.1
            have f1 := (HZ.out _ hxw).2.2.1
            have f2 := (HZ.out _ hxw).2.2.2
            clear hj
            go_simp
            try go_bits
            first | rfl | (rw [if_pos (by omega), if_pos (by omega)]; go_simp; rfl) | (rw [if_pos (by omega)]; go_simp; rfl) | skip
          · have l0 := (HZ.out _ hxw).1.1
            have l1 := (HZ.out _ hxw).1.2.1
            have l2 := (HZ.out _ hxw).1.2.2
            have f0 := (HZ.out _ hxw).2.1
            have f1 := (HZ.out _ hxw).2.2.1
            have f2 := (HZ.out _ hxw).2.2.2
            clear hj
            go_simp
            try go_bits
            first | rfl | (rw [if_pos (by omega), if_pos (by omega)]; go_simp; rfl) | (rw [if_pos (by omega)]; go_simp; rfl) | skip
          · have l0 := (HZ.out _ hxw).1.1
            have l1 := (HZ.out _ hxw).1.2.1
            have l2 := (HZ.out _ hxw).1.2.2
            have f0 := (HZ.out _ hxw).2.1
            have f1 := (HZ.out _ hxw).2.2.1
            have f2 := (HZ.out _ hxw).2.2.2
            clear hj
            go_simp
            try go_bits
            first | rfl | (rw [if_pos (by omega), if_pos (by omega)]; go_simp; rfl) | (rw [if_pos (by omega)]; go_simp; rfl) | skip
          · have l0 := (HZ.out _ hxw).1.1
            have l1 := (HZ.out _ hxw).1.2.1
            have l2 := (HZ.out _ hxw).1.2.2
            have f0 := (HZ.out _ hxw).2.1
            have f1 := (HZ.out _ hxw).2.2.1
            have f2 := (HZ.out _ hxw).2.2.2
            clear hj
            go_simp
            try go_bits
            first | rfl | (rw [if_pos (by omega), if_pos (by omega)]; go_simp; rfl) | (rw [if_pos (by omega)]; go_simp; rfl) | skip
          · have l0 := (HZ.out _ hxw).1.1
            have l1 := (HZ.out _ hxw).1.2.1
            have l2 := (HZ.out _ hxw).1.2.2
            have f0 := (HZ.out _ hxw).2.1
            have f1 := (HZ.out _ hxw).2.2.1
            have f2 := (HZ.out _ hxw).2.2.2
            clear hj
            go_simp
            try go_bits
            first | rfl | (rw [if_pos (by omega), if_pos (by omega)]; go_simp; rfl) | (rw [if_pos (by omega)]; go_simp; rfl) | skip
          · have l0 := (HZ.out _ hxw).1.1
            have l1 := (HZ.out _ hxw).1.2.1
            have l2 := (HZ.out _ hxw).1.2.2
            have f0 := (HZ.out _ hxw).2.1
            have f1 := (HZ.out _ hxw).2.2.1
            have f2 := (HZ.out _ hxw).2.2.2
            clear hj
            go_simp
            try go_bits
            first | rfl | (rw [if_pos (by omega), if_pos (by omega)]; go_simp; rfl) | (rw [if_pos (by omega)]; go_simp; rfl) | skip
          · have l0 := (HZ.out _ hxw).1.1
            have l1 := (HZ.out _ hxw).1.2.1
            have l2 := (HZ.out _ hxw).1.2.2
            have f0 := (HZ.out _ hxw).2.1
            have f1 := (HZ.out _ hxw).2.2.1
            have f2 := (HZ.out _ hxw).2.2.2
            clear hj
            go_simp
            try go_bits
            first | rfl | (rw [if_pos (by omega), if_pos (by omega)]; go_simp; rfl) | (rw [if_pos (by omega)]; go_simp; rfl) | skip
          · have l0 := (HZ.out _ hxw).1.1
            have l1 := (HZ.out _ hxw).1.2.1
            have l2 := (HZ.out _ hxw).1.2.2
            have f0 := (HZ.out _ hxw).2.1
            have f1 := (HZ.out _ hxw).2.2.1
            have f2 := (HZ.out _ hxw).2.2.2
            clear hj
            go_simp
            try go_bits
            first | rfl | (rw [if_pos (by omega), if_pos (by omega)]; go_simp; rfl) | (rw [if_pos (by omega)]; go_simp; rfl) | skip
          · have l0 := (HZ.out _ hxw).1.1
            have l1 := (HZ.out _ hxw).1.2.1
            have l2 := (HZ.out _ hxw).1.2.2
            have f0 := (HZ.out _ hxw).2.1
            have f1 := (HZ.out _ hxw).2.2.1
            have f2 := (HZ.out _ hxw).2.2.2
            clear hj
            go_simp
            try go_bits
            first | rfl | (rw [if_pos (by omega), if_pos (by omega)]; go_simp; rfl) | (rw [if_pos (by omega)]; go_simp; rfl) | skip
          · have l0 := (HZ.out _ hxw).1.1
            have l1 := (HZ.out _ hxw).1.2.1
            have l2 := (HZ.out _ hxw).1.2.2
            have f0 := (HZ.out _ hxw).2.1
            have f1 := (HZ.out _ hxw).2.2.1
            have f2 := (HZ.out _ hxw).2.2.2
            clear hj
            go_simp
            try go_bits
            first | rfl | (rw [if_pos (by omega), if_pos (by omega)]; go_simp; rfl) | (rw [if_pos (by omega)]; go_simp; rfl) | skip
          · have l0 := (HZ.out _ hxw).1.1
            have l1 := (HZ.out _ hxw).1.2.1
            have l2 := (HZ.out _ hxw).1.2.2
            have f0 := (HZ.out _ hxw).2.1
            have f1 := (HZ.out _ hxw).2.2.1
            have f2 := (HZ.out _ hxw).2.2.2
            clear hj
            go_simp
            try go_bits
            first | rfl | (rw [if_pos (by omega), if_pos (by omega)]; go_simp; rfl) | (rw [if_pos (by omega)]; go_simp; rfl) | skip
          · have l0 := (HZ.out _ hxw).1.1
            have l1 := (HZ.out _ hxw).1.2.1
            have l2 := (HZ.out _ hxw).1.2.2
            have f0 := (HZ.out _ hxw).2.1
            have f1 := (HZ.out _ hxw).2.2.1
            have f2 := (HZ.out _ hxw).2.2.2
            clear hj
            go_simp
            try go_bits
            first | rfl | (rw [if_pos (by omega), if_pos (by omega)]; go_simp; rfl) | (rw [if_pos (by omega)]; go_simp; rfl) | skip
          · have l0 := (HZ.out _ hxw).1.1
            have l1 := (HZ.out _ hxw).1.2.1
            have l2 := (HZ.out _ hxw).1.2.2
            have f0 := (HZ.out _ hxw).2.1
            have f1 := (HZ.out _ hxw).2.2.1
            have f2 := (HZ.out _ hxw).2.2.2
            clear hj
            go_simp
            try go_bits
            first | rfl | (rw [if_pos (by omega), if_pos (by omega)]; go_simp; rfl) | (rw [if_pos (by omega)]; go_simp; rfl) | skip
          · have l0 := (HZ.out _ hxw).1.1
            have l1 := (HZ.out _ hxw).1.2.1
            have l2 := (HZ.out _ hxw).1.2.2
            have f0 := (HZ.out _ hxw).2.1
            have f1 := (HZ.out _ hxw).2.2.1
            have f2 := (HZ.out _ hxw).2.2.2
            clear hj
            go_simp
            try go_bits
            first | rfl | (rw [if_pos (by omega), if_pos (by omega)]; go_simp; rfl) | (rw [if_pos (by omega)]; go_simp; rfl) | skip
          · have l0 := (HZ.out _ hxw).1.1
            have l1 := (HZ.out _ hxw).1.2.1
            have l2 := (HZ.out _ hxw).1.2.2
            have f0 := (HZ.out _ hxw).2.1
            have f1 := (HZ.out _ hxw).2.2.1
            have f2 := (HZ.out _ hxw).2.2.2
            clear hj
            go_simp
            try go_bits
            first | rfl | (rw [if_pos (by omega), if_pos (by omega)]; go_simp; rfl) | (rw [if_pos (by omega)]; go_simp; rfl) | skip
          · have l0 := (HZ.out _ hxw).1.1
            have l1 := (HZ.out _ hxw).1.2.1
            have l2 := (HZ.out _ hxw).1.2.2
            have f0 := (HZ.out _ hxw).2.1
            have f1 := (HZ.out _ hxw).2.2.1
            have f2 := (HZ.out _ hxw).2.2.2
            clear hj
            go_simp
            try go_bits
            first | rfl | (rw [if_pos (by omega), if_pos (by omega)]; go_simp; rfl) | (rw [if_pos (by omega)]; go_simp; rfl) | skip
          · have l0 := (HZ.out _ hxw).1.1
            have l1 := (HZ.out _ hxw).1.2.1
            have l2 := (HZ.out _ hxw).1.2.2
            have f0 := (HZ.out _ hxw).2.1
            have f1 := (HZ.out _ hxw).2.2.1
            have f2 := (HZ.out _ hxw).2.2.2
            clear hj
            go_simp
            try go_bits
            first | rfl | (rw [if_pos (by omega), if_pos (by omega)]; go_simp; rfl) | (rw [if_pos (by omega)]; go_simp; rfl) | skip
        case' hx8_3_p =>
          intro vs w8 hx8 hk
          clear hk
          replace E := Ext.trans E hx8
          go_simp
          clear hx8
          go_wp2
          go_ret
          exact ⟨lab_bool HB.out.symm, Ext.trans HP.out.2.2.2 E⟩
      by_cases h4 : S ≤ y
      · skip
        have HB := Lib.hid (isLab_bad (by rw [← HM.out.2.1]; exact hlt) (okAt_arc (L := L) (S := S) HP.out.2.1 (by omega)))
        go_wp2
        have E := Ext.alloc wr (.cells #[.int .i64 x, .int .i64 y, .int .i64 z] 36)
        refine wp_region_inv (by kernel_rfl) (.known ?hx8_4_v0 :: .known ?hx8_4_v1 :: .known ?hx8_4_v2 :: .known ?hx8_4_v3 :: .known ?hx8_4_v4 :: .known ?hx8_4_v5 :: .known ?hx8_4_v6 :: .known ?hx8_4_v7 :: .known ?hx8_4_v8 :: .known ?hx8_4_v9 :: .known ?hx8_4_v10 :: .known ?hx8_4_v11 :: .known ?hx8_4_v12 :: .known ?hx8_4_v13 :: .known ?hx8_4_v14 :: .known ?hx8_4_v15 :: .known ?hx8_4_v16 :: .known ?hx8_4_v17 :: .known ?hx8_4_v18 :: .known ?hx8_4_v19 :: .known ?hx8_4_v20 :: .known ?hx8_4_v21 :: .known ?hx8_4_v22 :: .known ?hx8_4_v23 :: .known ?hx8_4_v24 :: .known ?hx8_4_v25 :: .known ?hx8_4_v26 :: .known ?hx8_4_v27 :: .known ?hx8_4_v28 :: .known ?hx8_4_v29 :: .known ?hx8_4_v30 :: .known ?hx8_4_v31 :: .known ?hx8_4_v32 :: .known ?hx8_4_v33 :: .known ?hx8_4_v34 :: .known ?hx8_4_v35 :: .known ?hx8_4_v36 :: .known ?hx8_4_v37 :: .known ?hx8_4_v38 :: .known ?hx8_4_v39 :: .known ?hx8_4_v40 :: .known ?hx8_4_v41 :: .known ?hx8_4_v42 :: .known ?hx8_4_v43 :: .known ?hx8_4_v44 :: .known ?hx8_4_v45 :: .known ?hx8_4_v46 :: .known ?hx8_4_v47 :: .known ?hx8_4_v48 :: []) rfl (by kernel_rfl) ?hx8_4_s ?hx8_4_p
        case hx8_4_s =>
          intro vs
          refine ⟨fun w' hxw hj => ?_, fun w' hxw hj => ?_, fun w' hxw hj => ?_, fun w' hxw hj => ?_, fun w' hxw hj => ?_, fun w' hxw hj => ?_, fun w' hxw hj => ?_, fun w' hxw hj => ?_, fun w' hxw hj => ?_, fun w' hxw hj => ?_, fun w' hxw hj => ?_, fun w' hxw hj => ?_, fun w' hxw hj => ?_, fun w' hxw hj => ?_, fun w' hxw hj => ?_, fun w' hxw hj => ?_, fun w' hxw hj => ?_, fun w' hxw hj => ?_, fun w' hxw hj => ?_, fun w' hxw hj => ?_, fun w' hxw hj => ?_, fun w' hxw hj => ?_, fun w' hxw hj => ?_, fun w' hxw hj => ?_, fun w' hxw hj => ?_, fun w' hxw hj => ?_, fun w' hxw hj => ?_, fun w' hxw hj => ?_, fun w' hxw hj => ?_, fun w' hxw hj => ?_, fun w' hxw hj => ?_, fun w' hxw hj => ?_, fun w' hxw hj => ?_, fun w' hxw hj => ?_, fun w' hxw hj => ?_, fun w' hxw hj => ?_, fun w' hxw hj => ?_, fun w' hxw hj => ?_, fun w' hxw hj => ?_, fun w' hxw hj => ?_, fun w' hxw hj => ?_, fun w' hxw hj => ?_, fun w' hxw hj => ?_, fun w' hxw hj => ?_, fun w' hxw hj => ?_, fun w' hxw hj => ?_, fun w' hxw hj => ?_, fun w' hxw hj => ?_, fun w' hxw hj => ?_, trivial⟩
          · have l0 := (HZ.out _ hxw).1.1
            have l1 := (HZ.out _ hxw).1.2.1
            have l2 := (HZ.out _ hxw).1.2.2
            have f0 := (HZ.out _ hxw).2.1
            have f1 := (HZ.out _ hxw).2.2.1
            have f2 := (HZ.out _ hxw).2.2.2
            clear hj
            go_simp
            try go_bits
            first | rfl | (rw [if_pos (by omega), if_pos (by omega)]; go_simp; rfl) | (rw [if_pos (by omega)]; go_simp; rfl) | skip
          · have l0 := (HZ.out _ hxw).1.1
            have l1 := (HZ.out _ hxw).1.2.1
            have l2 := (HZ.out _ hxw).1.2.2
            have f0 := (HZ.out _ hxw).2.1
            have f1 := (HZ.out _ hxw).2.2.1
            have f2 := (HZ.out _ hxw).2.2.2
            clear hj
            go_simp
            try go_bits
            first | rfl | (rw [if_pos (by omega), if_pos (by omega)]; go_simp; rfl) | (rw [if_pos (by omega)]; go_simp; rfl) | skip
          · have l0 := (HZ.out _ hxw).1.1
            have l1 := (HZ.out _ hxw).1.2.1
            have l2 := (HZ.out _ hxw).1.2.2
            have f0 := (HZ.out _ hxw).2.1
            have f1 := (HZ.out _ hxw).2.2.1
            have f2 := (HZ.out _ hxw).2.2.2
            clear hj
            go_simp
            try go_bits
            first | rfl | (rw [if_pos (by omega), if_pos (by omega)]; go_simp; rfl) | (rw [if_pos (by omega)]; go_simp; rfl) | skip
          · have l0 := (HZ.out _ hxw).1.1
            have l1 := (HZ.out _ hxw).1.2.1
            have l2 := (HZ.out _ hxw).1.2.2
            have f0 := (HZ.out _ hxw).2.1
            have f1 := (HZ.out _ hxw).2.2.1
            have f2 := (HZ.out _ hxw).2.2.2
            clear hj
            go_simp
            try go_bits
            first | rfl | (rw [if_pos (by omega), if_pos (by omega)]; go_simp; rfl) | (rw [if_pos (by omega)]; go_simp; rfl) | skip
          · have l0 := (HZ.out _ hxw).1.1
            have l1 := (HZ.out _ hxw).1.2.1
            have l2 := (HZ.out _ hxw).1.2.2
            have f0 := (HZ.out _ hxw).2.1
            have f1 := (HZ.out _ hxw).2.2.1
            have f2 := (HZ.out _ hxw).2.2.2
            clear hj
            go_simp
            try go_bits
            first | rfl | (rw [if_pos (by omega), if_pos (by omega)]; go_simp; rfl) | (rw [if_pos (by omega)]; go_simp; rfl) | skip
          · have l0 := (HZ.out _ hxw).1.1
            have l1 := (HZ.out _ hxw).1.2.1
            have l2 := (HZ.out _ hxw).1.2.2
            have f0 := (HZ.out _ hxw).2.1
            have f1 := (HZ.out _ hxw).2.2.1
            have f2 := (HZ.out _ hxw).2.2.2
            clear hj
            go_simp
            try go_bits
            first | rfl | (rw [if_pos (by omega), if_pos (by omega)]; go_simp; rfl) | (rw [if_pos (by omega)]; go_simp; rfl) | skip
          · have l0 := (HZ.out _ hxw).1.1
            have l1 := (HZ.out _ hxw).1.2.1
            have l2 := (HZ.out _ hxw).1.2.2
            have f0 := (HZ.out _ hxw).2.1
            have f1 := (HZ.out _ hxw).2.2.1
            have f2 := (HZ.out _ hxw).2.2.2
            clear hj
            go_simp
            try go_bits
            first | rfl | (rw [if_pos (by omega), if_pos (by omega)]; go_simp; rfl) | (rw [if_pos (by omega)]; go_simp; rfl) | skip
          · have l0 := (HZ.out _ hxw).1.1
            have l1 := (HZ.out _ hxw).1.2.1
            have l2 := (HZ.out _ hxw).1.2.2
            have f0 := (HZ.out _ hxw).2.1
            have f1 := (HZ.out _ hxw).2.2.1
            have f2 := (HZ.out _ hxw).2.2.2
            clear hj
            go_simp
            try go_bits
            first | rfl | (rw [if_pos (by omega), if_pos (by omega)]; go_simp; rfl) | (rw [if_pos (by omega)]; go_simp; rfl) | skip
          · have l0 := (HZ.out _ hxw).1.1
            have l1 := (HZ.out _ hxw).1.2.1
            have l2 := (HZ.out _ hxw).1.2.2
            have f0 := (HZ.out _ hxw).2.1
            have f1 := (HZ.out _ hxw).2.2.1
            have f2 := (HZ.out _ hxw).2.2.2
            clear hj
            go_simp
            try go_bits
            first | rfl | (rw [if_pos (by omega), if_pos (by omega)]; go_simp; rfl) | (rw [if_pos (by omega)]; go_simp; rfl) | skip
          · have l0 := (HZ.out _ hxw).1.1
            have l1 := (HZ.out _ hxw).1.2.1
            have l2 := (HZ.out _ hxw).1.2.2
            have f0 := (HZ.out _ hxw).2.1
            have f1 := (HZ.out _ hxw).2.2.1
            have f2 := (HZ.out _ hxw).2.2.2
            clear hj
            go_simp
            try go_bits
            first | rfl | (rw [if_pos (by omega), if_pos (by omega)]; go_simp; rfl) | (rw [if_pos (by omega)]; go_simp; rfl) | skip
          · have l0 := (HZ.out _ hxw).1.1
            have l1 := (HZ.out _ hxw).1.2.1
            have l2 := (HZ.out _ hxw).1.2.2
            have f0 := (HZ.out _ hxw).2.1
            have f1 := (HZ.out _ hxw).2.2.1
            have f2 := (HZ.out _ hxw).2.2.2
            clear hj
            go_simp
            try go_bits
            first | rfl | (rw [if_pos (by omega), if_pos (by omega)]; go_simp; rfl) | (rw [if_pos (by omega)]; go_simp; rfl) | skip
          · have l0 := (HZ.out _ hxw).1.1
            have l1 := (HZ.out _ hxw).1.2.1
            have l2 := (HZ.out _ hxw).1.2.2
            have f0 := (HZ.out _ hxw).2.1
            have f1 := (HZ.out _ hxw).2.2.1
            have f2 := (HZ.out _ hxw).2.2.2
            clear hj
            go_simp
            try go_bits
            first | rfl | (rw [if_pos (by omega), if_pos (by omega)]; go_simp; rfl) | (rw [if_pos (by omega)]; go_simp; rfl) | skip
          · have l0 := (HZ.out _ hxw).1.1
            have l1 := (HZ.out _ hxw).1.2.1
            have l2 := (HZ.out _ hxw).1.2.2
            have f0 := (HZ.out _ hxw).2.1
            have f1 := (HZ.out _ hxw).2.2.1
            have f2 := (HZ.out _ hxw).2.2.2
            clear hj
            go_simp
            try go_bits
            first | rfl | (rw [if_pos (by omega), if_pos (by omega)]; go_simp; rfl) | (rw [if_pos (by omega)]; go_simp; rfl) | skip
          · have l0 := (HZ.out _ hxw).1.1
            have l1 := (HZ.out _ hxw).1.2.1
            have l2 := (HZ.out _ hxw).1.2.2
            have f0 := (HZ.out _ hxw).2.1
            have f1 := (HZ.out _ hxw).2.2.1
            have f2 := (HZ.out _ hxw).2.2.2
            clear hj
            go_simp
            try go_bits
            first | rfl | (rw [if_pos (by omega), if_pos (by omega)]; go_simp; rfl) | (rw [if_pos (by omega)]; go_simp; rfl) | skip
          · have l0 := (HZ.out _ hxw).1.1
            have l1 := (HZ.out _ hxw).1.2.1
            have l2 := (HZ.out _ hxw).1.2.2
            have f0 := (HZ.out _ hxw).2.1
            have f1 := (HZ.out _ hxw).2.2.1
            have f2 := (HZ.out _ hxw).2.2.2
            clear hj
            go_simp
            try go_bits
            first | rfl | (rw [if_pos (by omega), if_pos (by omega)]; go_simp; rfl) | (rw [if_pos (by omega)]; go_simp; rfl) | skip
          · have l0 := (HZ.out _ hxw).1.1
            have l1 := (HZ.out _ hxw).1.2.1
            have l2 := (HZ.out _ hxw).1.2.2
            have f0 := (HZ.out _ hxw).2.1
            have f1 := (HZ.out _ hxw).2.2.1
            have f2 := (HZ.out _ hxw).2.2.2
            clear hj
            go_simp
            try go_bits
            first | rfl | (rw [if_pos (by omega), if_pos (by omega)]; go_simp; rfl) | (rw [if_pos (by omega)]; go_simp; rfl) | skip
          · have l0 := (HZ.out _ hxw).1.1
            have l1 := (HZ.out _ hxw).1.2.1
            have l2 := (HZ.out _ hxw).1.2.2
            have f0 := (HZ.out _ hxw).2.1
            have f1 := (HZ.out _ hxw).2.2.1
            have f2 := (HZ.out _ hxw).2.2.2
            clear hj
            go_simp
            try go_bits
            first | rfl | (rw [if_pos (by omega), if_pos (by omega)]; go_simp; rfl) | (rw [if_pos (by omega)]; go_simp; rfl) | skip
          · have l0 := (HZ.out _ hxw).1.1
            have l1 := (HZ.out _ hxw).1.2.1
            have l2 := (HZ.out _ hxw).1.2.2
            have f0 := (HZ.out _ hxw).2.1
            have f1 := (HZ.out _ hxw).2.2.1
            have f2 := (HZ.out _ hxw).2.2.2
            clear hj
            go_simp
            try go_bits
            first | rfl | (rw [if_pos (by omega), if_pos (by omega)]; go_simp; rfl) | (rw [if_pos (by omega)]; go_simp; rfl) | skip
          · have l0 := (HZ.out _ hxw).1.1
            have l1 := (HZ.out _ hxw).1.2.1
            have l2 := (HZ.out _ hxw).1.2.2
            have f0 := (HZ.out _ hxw).2.1
            have f1 := (HZ.out _ hxw).2.2.1
            have f2 := (HZ.out _ hxw).2.2.2
            clear hj
            go_simp
            try go_bits
            first | rfl | (rw [if_pos (by omega), if_pos (by omega)]; go_simp; rfl) | (rw [if_pos (by omega)]; go_simp; rfl) | skip
          · have l0 := (HZ.out _ hxw).1.1
            have l1 := (HZ.out _ hxw).1.2.1
            have l2 := (HZ.out _ hxw).1.2.2
            have f0 := (HZ.out _ hxw).2.1
            have f1 := (HZ.out _ hxw).2.2.1
            have f2 := (HZ.out _ hxw).2.2.2
            clear hj
            go_simp
            try go_bits
            first | rfl | (rw [if_pos (by omega), if_pos (by omega)]; go_simp; rfl) | (rw [if_pos (by omega)]; go_simp; rfl) | skip
          · have l0 := (HZ.out _ hxw).1.1
            have l1 := (HZ.out _ hxw).1.2.1
            have l2 := (HZ.out _ hxw).1.2.2
            have f0 := (HZ.out _ hxw).2.1
            have f1 := (HZ.out _ hxw).2.2.1
            have f2 := (HZ.out _ hxw).2.2.2
            clear hj
            go_simp
            try go_bits
            first | rfl | (rw [if_pos (by omega), if_pos (by omega)]; go_simp; rfl) | (rw [if_pos (by omega)]; go_simp; rfl) | skip
          · have l0 := (HZ.out _ hxw).1.1
            have l1 := (HZ.out _ hxw).1.2.1
            have l2 := (HZ.out _ hxw).1.2.2
            have f0 := (HZ.out _ hxw).2.1
            have f1 := (HZ.out _ hxw).2.2.1
            have f2 := (HZ.out _ hxw).2.2.2
            clear hj
            go_simp
            try go_bits
            first | rfl | (rw [if_pos (by omega), if_pos (by omega)]; go_simp; rfl) | (rw [if_pos (by omega)]; go_simp; rfl) | skip
          · have l0 := (HZ.out _ hxw).1.1
            have l1 := (HZ.out _ hxw).1.2.1
            have l2 := (HZ.out _ hxw).1.2.2
            have f0 := (HZ.out _ hxw).2.1
            have f1 := (HZ.out _ hxw).2.2.1
            have f2 := (HZ.out _ hxw).2.2.2
            clear hj
            go_simp
            try go_bits
            first | rfl | (rw [if_pos (by omega), if_pos (by omega)]; go_simp; rfl) | (rw [if_pos (by omega)]; go_simp; rfl) | skip
          · have l0 := (HZ.out _ hxw).1.1
            have l1 := (HZ.out _ hxw).1.2.1
            have l2 := (HZ.out _ hxw).1.2.2
            have f0 := (HZ.out _ hxw).2.1
            have f1 := (HZ.out _ hxw).2.2.1
            have f2 := (HZ.out _ hxw).2.2.2
            clear hj
            go_simp
            try go_bits
            first | rfl | (rw [if_pos (by omega), if_pos (by omega)]; go_simp; rfl) | (rw [if_pos (by omega)]; go_simp; rfl) | skip
          · have l0 := (HZ.out _ hxw).1.1
            have l1 := (HZ.out _ hxw).1.2.1
            have l2 := (HZ.out _ hxw).1.2.2
            have f0 := (HZ.out _ hxw).2.1
            have f1 := (HZ.out _ hxw).2.2.1
            have f2 := (HZ.out _ hxw).2.2.2
            clear hj
            go_simp
            try go_bits
            first | rfl | (rw [if_pos (by omega), if_pos (by omega)]; go_simp; rfl) | (rw [if_pos (by omega)]; go_simp; rfl) | skip
          · have l0 := (HZ.out _ hxw).1.1
            have l1 := (HZ.out _ hxw).1.2.1
            have l2 := (HZ.out _ hxw).1.2.2
            have f0 := (HZ.out _ hxw).2.1
            have f1 := (HZ.out _ hxw).2.2.1
            have f2 := (HZ.out _ hxw).2.2.2
            clear hj
            go_simp
            try go_bits
            first | rfl | (rw [if_pos (by omega), if_pos (by omega)]; go_simp; rfl) | (rw [if_pos (by omega)]; go_simp; rfl) | skip
          · have l0 := (HZ.out _ hxw).1.1
            have l1 := (HZ.out _ hxw).1.2.1
            have l2 := (HZ.out _ hxw).1.2.2
            have f0 := (HZ.out _ hxw).2.1
            have f1 := (HZ.out _ hxw).2.2.1
            have f2 := (HZ.out _ hxw).2.2.2
            clear hj
            go_simp
            try go_bits
            first | rfl | (rw [if_pos (by omega), if_pos (by omega)]; go_simp; rfl) | (rw [if_pos (by omega)]; go_simp; rfl) | skip
          · have l0 := (HZ.out _ hxw).1.1
            have l1 := (HZ.out _ hxw).1.2.1
            have l2 := (HZ.out _ hxw).1.2.2
            have f0 := (HZ.out _ hxw).2.1
            have f1 := (HZ.out _ hxw).2.2.1
            have f2 := (HZ.out _ hxw).2.2.2
            clear hj
            go_simp
            try go_bits
            first | rfl | (rw [if_pos (by omega), if_pos (by omega)]; go_simp; rfl) | (rw [if_pos (by omega)]; go_simp; rfl) | skip
          · have l0 := (HZ.out _ hxw).1.1
            have l1 := (HZ.out _ hxw).1.2.1
            have l2 := (HZ.out _ hxw).1.2.2
            have f0 := (HZ.out _ hxw).2.1
            have f1 := (HZ.out _ hxw).2.2.1
            have f2 := (HZ.out _ hxw).2.2.2
            clear hj
            go_simp
            try go_bits
            first | rfl | (rw [if_pos (by omega), if_pos (by omega)]; go_simp; rfl) | (rw [if_pos (by omega)]; go_simp; rfl) | skip
          · have l0 := (HZ.out _ hxw).1.1
            have l1 := (HZ.out _ hxw).1.2.1
            have l2 := (HZ.out _ hxw).1.2.2
            have f0 := (HZ.out _ hxw).2.1
            have f1 := (HZ.out _ hxw).2.2.1
            have f2 := (HZ.out _ hxw).2.2.2
            clear hj
            go_simp
            try go_bits
            first | rfl | (rw [if_pos (by omega), if_pos (by omega)]; go_simp; rfl) | (rw [if_pos (by omega)]; go_simp; rfl) | skip
          · have l0 := (HZ.out _ hxw).1.1
            have l1 := (HZ.out _ hxw).1.2.1
            have l2 := (HZ.out _ hxw).1.2.2
            have f0 := (HZ.out _ hxw).2.1
            have f1 := (HZ.out _ hxw).2.2.1
            have f2 := (HZ.out _ hxw).2.2.2
            clear hj
            go_simp
            try go_bits
            first | rfl | (rw [if_pos (by omega), if_pos (by omega)]; go_simp; rfl) | (rw [if_pos (by omega)]; go_simp; rfl) | skip
          · have l0 := (HZ.out _ hxw).1.1
            have l1 := (HZ.out _ hxw).1.2.1
            have l2 := (HZ.out _ hxw).1.2.2
            have f0 := (HZ.out _ hxw).2.1
            have f1 := (HZ.out _ hxw).2.2.1
            have f2 := (HZ.out _ hxw).2.2.2
            clear hj
            go_simp
            try go_bits
            first | rfl | (rw [if_pos (by omega), if_pos (by omega)]; go_simp; rfl) | (rw [if_pos (by omega)]; go_simp; rfl) | skip
          · have l0 := (HZ.out _ hxw).1.1
            have l1 := (HZ.out _ hxw).1.2.1
            have l2 := (HZ.out _ hxw).1.2.2
            have f0 := (HZ.out _ hxw).2.1
            have f1 := (HZ.out _ hxw).2.2.1
            have f2 := (HZ.out _ hxw).2.2.2
            clear hj
            go_simp
            try go_bits
            first | rfl | (rw [if_pos (by omega), if_pos (by omega)]; go_simp; rfl) | (rw [if_pos (by omega)]; go_simp; rfl) | skip
          · have l0 := (HZ.out _ hxw).1.1
            have l1 := (HZ.out _ hxw).1.2.1
            have l2 := (HZ.out _ hxw).1.2.2
            have f0 := (HZ.out _ hxw).2.1
            have f1 := (HZ.out _ hxw).2.2.1
            have f2 := (HZ.out _ hxw).2.2.2
            clear hj
            go_simp
            try go_bits
            first | rfl | (rw [if_pos (by omega), if_pos (by omega)]; go_simp; rfl) | (rw [if_pos (by omega)]; go_simp; rfl) | skip
          · have l0 := (HZ.out _ hxw).1.1
            have l1 := (HZ.out _ hxw).1.2.1
            have l2 := (HZ.out _ hxw).1.2.2
            have f0 := (HZ.out _ hxw).2.1
            have f1 := (HZ.out _ hxw).2.2.1
            have f2 := (HZ.out _ hxw).2.2.2
            clear hj
            go_simp
            try go_bits
            first | rfl | (rw [if_pos (by omega), if_pos (by omega)]; go_simp; rfl) | (rw [if_pos (by omega)]; go_simp; rfl) | skip
          · have l0 := (HZ.out _ hxw).1.1
            have l1 := (HZ.out _ hxw).1.2.1
            have l2 := (HZ.out _ hxw).1.2.2
            have f0 := (HZ.out _ hxw).2.1
            have f1 := (HZ.out _ hxw).2.2.1
            have f2 := (HZ.out _ hxw).2.2.2
            clear hj
            go_simp
            try go_bits
            first | rfl | (rw [if_pos (by omega), if_pos (by omega)]; go_simp; rfl) | (rw [if_pos (by omega)]; go_simp; rfl) | skip
          · have l0 := (HZ.out _ hxw).1.1
            have l1 := (HZ.out _ hxw).1.2.1
            have l2 := (HZ.out _ hxw).1.2.2
            have f0 := (HZ.out _ hxw).2.1
            have f1 := (HZ.out _ hxw).2.2.1
            have f2 := (HZ.out _ hxw).2.2.2
            clear hj
            go_simp
            try go_bits
            first | rfl | (rw [if_pos (by omega), if_pos (by omega)]; go_simp; rfl) | (rw [if_pos (by omega)]; go_simp; rfl) | skip
          · have l0 := (HZ.out _ hxw).1.1
            have l1 := (HZ.out _ hxw).1.2.1
            have l2 := (HZ.out _ hxw).1.2.2
            have f0 := (HZ.out _ hxw).2.1
            have f1 := (HZ.out _ hxw).2.2.1
            have f2 := (HZ.out _ hxw).2.2.2
            clear hj
            go_simp
            try go_bits
            first | rfl | (rw [if_pos (by omega), if_pos (by omega)]; go_simp; rfl) | (rw [if_pos (by omega)]; go_simp; rfl) | skip
          · have l0 := (HZ.out _ hxw).1.1
            have l1 := (HZ.out _ hxw).1.2.1
            have l2 := (HZ.out _ hxw).1.2.2
            have f0 := (HZ.out _ hxw).2.1
            have f1 := (HZ.out _ hxw).2.2.1
            have f2 := (HZ.out _ hxw).2.2.2
            clear hj
            go_simp
            try go_bits
            first | rfl | (rw [if_pos (by omega), if_pos (by omega)]; go_simp; rfl) | (rw [if_pos (by omega)]; go_simp; rfl) | skip
          · have l0 := (HZ.out _ hxw).1.1
            have l1 := (HZ.out _ hxw).1.2.1
            have l2 := (HZ.out _ hxw).1.2.2
            have f0 := (HZ.out _ hxw).2.1
            have f1 := (HZ.out _ hxw).2.2.1
            have f2 := (HZ.out _ hxw).2.2.2
            clear hj
            go_simp
            try go_bits
            first | rfl | (rw [if_pos (by omega), if_pos (by omega)]; go_simp; rfl) | (rw [if_pos (by omega)]; go_simp; rfl) | skip
          · have l0 := (HZ.out _ hxw).1.1
            have l1 := (HZ.out _ hxw).1.2.1
            have l2 := (HZ.out _ hxw).1.2.2
            have f0 := (HZ.out _ hxw).2.1
            have f1 := (HZ.out _ hxw).2.2.1
            have f2 := (HZ.out _ hxw).2.2.2
            clear hj
            go_simp
            try go_bits
            first | rfl | (rw [if_pos (by omega), if_pos (by omega)]; go_simp; rfl) | (rw [if_pos (by omega)]; go_simp; rfl) | skip
          · have l0 := (HZ.out _ hxw).1.1
            have l1 := (HZ.out _ hxw).1.2.1
            have l2 := (HZ.out _ hxw).1.2.2
            have f0 := (HZ.out _ hxw).2.1
            have f1 := (HZ.out _ hxw).2.2.1
            have f2 := (HZ.out _ hxw).2.2.2
            clear hj
            go_simp
            try go_bits
            first | rfl | (rw [if_pos (by omega), if_pos (by omega)]; go_simp; rfl) | (rw [if_pos (by omega)]; go_simp; rfl) | skip
          · have l0 := (HZ.out _ hxw).1.1
            have l1 := (HZ.out _ hxw).1.2.1
            have l2 := (HZ.out _ hxw).1.2.2
            have f0 := (HZ.out _ hxw).2.1
            have f1 := (HZ.out _ hxw).2.2.1
            have f2 := (HZ.out _ hxw).2.2.2
            clear hj
            go_simp
            try go_bits
            first | rfl | (rw [if_pos (by omega), if_pos (by omega)]; go_simp; rfl) | (rw [if_pos (by omega)]; go_simp; rfl) | skip
          · have l0 := (HZ.out _ hxw).1.1
            have l1 := (HZ.out _ hxw).1.2.1
            have l2 := (HZ.out _ hxw).1.2.2
            have f0 := (HZ.out _ hxw).2.1
            have f1 := (HZ.out _ hxw).2.2.1
            have f2 := (HZ.out _ hxw).2.2.2
            clear hj
            go_simp
            try go_bits
            first | rfl | (rw [if_pos (by omega), if_pos (by omega)]; go_simp; rfl) | (rw [if_pos (by omega)]; go_simp; rfl) | skip
          · have l0 := (HZ.out _ hxw).1.1
            have l1 := (HZ.out _ hxw).1.2.1
            have l2 := (HZ.out _ hxw).1.2.2
            have f0 := (HZ.out _ hxw).2.1
            have f1 := (HZ.out _ hxw).2.2.1
            have f2 := (HZ.out _ hxw).2.2.2
            clear hj
            go_simp
            try go_bits
            first | rfl | (rw [if_pos (by omega), if_pos (by omega)]; go_simp; rfl) | (rw [if_pos (by omega)]; go_simp; rfl) | skip
          · have l0 := (HZ.out _ hxw).1.1
            have l1 := (HZ.out _ hxw).1.2.1
            have l2 := (HZ.out _ hxw).1.2.2
            have f0 := (HZ.out _ hxw).2.1
            have f1 := (HZ.out _ hxw).2.2.1
            have f2 := (HZ.out _ hxw).2.2.2
            clear hj
            go_simp
            try go_bits
            first | rfl | (rw [if_pos (by omega), if_pos (by omega)]; go_simp; rfl) | (rw [if_pos (by omega)]; go_simp; rfl) | skip
          · have l0 := (HZ.out _ hxw).1.1
            have l1 := (HZ.out _ hxw).1.2.1
            have l2 := (HZ.out _ hxw).1.2.2
            have f0 := (HZ.out _ hxw).2.1
            have f1 := (HZ.out _ hxw).2.2.1
            have f2 := (HZ.out _ hxw).2.2.2
            clear hj
            go_simp
            try go_bits
            first | rfl | (rw [if_pos (by omega), if_pos (by omega)]; go_simp; rfl) | (rw [if_pos (by omega)]; go_simp; rfl) | skip
          · have l0 := (HZ.out _ hxw).1.1
            have l1 := (HZ.out _ hxw).1.2.1
            have l2 := (HZ.out _ hxw).1.2.2
            have f0 := (HZ.out _ hxw).2.1
            have f1 := (HZ.out _ hxw).2.2.1
            have f2 := (HZ.out _ hxw).2.2.2
            clear hj
            go_simp
            try go_bits
            first | rfl | (rw [if_pos (by omega), if_pos (by omega)]; go_simp; rfl) | (rw [if_pos (by omega)]; go_simp; rfl) | skip
          · have l0 := (HZ.out _ hxw).1.1
            have l1 := (HZ.out _ hxw).1.2.1
            have l2 := (HZ.out _ hxw).1.2.2
            have f0 := (HZ.out _ hxw).2.1
            have f1 := (HZ.out _ hxw).2.2.1
            have f2 := (HZ.out _ hxw).2.2.2
            clear hj
            go_simp
            try go_bits
            first | rfl | (rw [if_pos (by omega), if_pos (by omega)]; go_simp; rfl) | (rw [if_pos (by omega)]; go_simp; rfl) | skip
        case' hx8_4_p =>
          intro vs w8 hx8 hk
          clear hk
          replace E := Ext.trans E hx8
          go_simp
          clear hx8
          go_wp2
          go_ret
          exact ⟨lab_bool HB.out.symm, Ext.trans HP.out.2.2.2 E⟩
      by_cases h5 : z < 0
      · skip
        have HB := Lib.hid (isLab_bad (by rw [← HM.out.2.1]; exact hlt) (okAt_arc (L := L) (S := S) HP.out.2.1 (by omega)))
        go_wp2
        have E := Ext.alloc wr (.cells #[.int .i64 x, .int .i64 y, .int .i64 z] 36)
        refine wp_region_inv (by kernel_rfl) (.known ?hx8_5_v0 :: .known ?hx8_5_v1 :: .known ?hx8_5_v2 :: .known ?hx8_5_v3 :: .known ?hx8_5_v4 :: .known ?hx8_5_v5 :: .known ?hx8_5_v6 :: .known ?hx8_5_v7 :: .known ?hx8_5_v8 :: .known ?hx8_5_v9 :: .known ?hx8_5_v10 :: .known ?hx8_5_v11 :: .known ?hx8_5_v12 :: .known ?hx8_5_v13 :: .known ?hx8_5_v14 :: .known ?hx8_5_v15 :: .known ?hx8_5_v16 :: .known ?hx8_5_v17 :: .known ?hx8_5_v18 :: .known ?hx8_5_v19 :: .known ?hx8_5_v20 :: .known ?hx8_5_v21 :: .known ?hx8_5_v22 :: .known ?hx8_5_v23 :: .known ?hx8_5_v24 :: .known ?hx8_5_v25 :: .known ?hx8_5_v26 :: .known ?hx8_5_v27 :: .known ?hx8_5_v28 :: .known ?hx8_5_v29 :: .known ?hx8_5_v30 :: .known ?hx8_5_v31 :: .known ?hx8_5_v32 :: .known ?hx8_5_v33 :: .known ?hx8_5_v34 :: .known ?hx8_5_v35 :: .known ?hx8_5_v36 :: .known ?hx8_5_v37 :: .known ?hx8_5_v38 :: .known ?hx8_5_v39 :: .known ?hx8_5_v40 :: .known ?hx8_5_v41 :: .known ?hx8_5_v42 :: .known ?hx8_5_v43 :: .known ?hx8_5_v44 :: .known ?hx8_5_v45 :: .known ?hx8_5_v46 :: .known ?hx8_5_v47 :: .known ?hx8_5_v48 :: []) rfl (by kernel_rfl) ?hx8_5_s ?hx8_5_p
        case hx8_5_s =>
          intro vs
          refine ⟨fun w' hxw hj => ?_, fun w' hxw hj => ?_, fun w' hxw hj => ?_, fun w' hxw hj => ?_, fun w' hxw hj => ?_, fun w' hxw hj => ?_, fun w' hxw hj => ?_, fun w' hxw hj => ?_, fun w' hxw hj => ?_, fun w' hxw hj => ?_, fun w' hxw hj => ?_, fun w' hxw hj => ?_, fun w' hxw hj => ?_, fun w' hxw hj => ?_, fun w' hxw hj => ?_, fun w' hxw hj => ?_, fun w' hxw hj => ?_, fun w' hxw hj => ?_, fun w' hxw hj => ?_, fun w' hxw hj => ?_, fun w' hxw hj => ?_, fun w' hxw hj => ?_, fun w' hxw hj => ?_, fun w' hxw hj => ?_, fun w' hxw hj => ?_, fun w' hxw hj => ?_, fun w' hxw hj => ?_, fun w' hxw hj => ?_, fun w' hxw hj => ?_, fun w' hxw hj => ?_, fun w' hxw hj => ?_, fun w' hxw hj => ?_, fun w' hxw hj => ?_, fun w' hxw hj => ?_, fun w' hxw hj => ?_, fun w' hxw hj => ?_, fun w' hxw hj => ?_, fun w' hxw hj => ?_, fun w' hxw hj => ?_, fun w' hxw hj => ?_, fun w' hxw hj => ?_, fun w' hxw hj => ?_, fun w' hxw hj => ?_, fun w' hxw hj => ?_, fun w' hxw hj => ?_, fun w' hxw hj => ?_, fun w' hxw hj => ?_, fun w' hxw hj => ?_, fun w' hxw hj => ?_, trivial⟩
          · have l0 := (HZ.out _ hxw).1.1
            have l1 := (HZ.out _ hxw).1.2.1
            have l2 := (HZ.out _ hxw).1.2.2
            have f0 := (HZ.out _ hxw).2.1
            have f1 := (HZ.out _ hxw).2.2.1
            have f2 := (HZ.out _ hxw).2.2.2
            clear hj
            go_simp
            try go_bits
            first | rfl | (rw [if_pos (by omega), if_pos (by omega)]; go_simp; rfl) | (rw [if_pos (by omega)]; go_simp; rfl) | skip
          · have l0 := (HZ.out _ hxw).1.1
            have l1 := (HZ.out _ hxw).1.2.1
            have l2 := (HZ.out _ hxw).1.2.2
            have f0 := (HZ.out _ hxw).2.1
            have f1 := (HZ.out _ hxw).2.2.1
            have f2 := (HZ.out _ hxw).2.2.2
            clear hj
            go_simp
            try go_bits
            first | rfl | (rw [if_pos (by omega), if_pos (by omega)]; go_simp; rfl) | (rw [if_pos (by omega)]; go_simp; rfl) | skip
          · have l0 := (HZ.out _ hxw).1.1
            have l1 := (HZ.out _ hxw).1.2.1
            have l2 := (HZ.out _ hxw).1.2.2
            have f0 := (HZ.out _ hxw).2.1
            have f1 := (HZ.out _ hxw).2.2.1
            have f2 := (HZ.out _ hxw).2.2.2
            clear hj
            go_simp
            try go_bits
            first | rfl | (rw [if_pos (by omega), if_pos (by omega)]; go_simp; rfl) | (rw [if_pos (by omega)]; go_simp; rfl) | skip
          · have l0 := (HZ.out _ hxw).1.1
            have l1 := (HZ.out _ hxw).1.2.1
            have l2 := (HZ.out _ hxw).1.2.2
            have f0 := (HZ.out _ hxw).2.1
            have f1 := (HZ.out _ hxw).2.2.1
            have f2 := (HZ.out _ hxw).2.2.2
            clear hj
            go_simp
            try go_bits
            first | rfl | (rw [if_pos (by omega), if_pos (by omega)]; go_simp; rfl) | (rw [if_pos (by omega)]; go_simp; rfl) | skip
          · have l0 := (HZ.out _ hxw).1.1
            have l1 := (HZ.out _ hxw).1.2.1
            have l2 := (HZ.out _ hxw).1.2.2
            have f0 := (HZ.out _ hxw).2.1
            have f1 := (HZ.out _ hxw).2.2.1
            have f2 := (HZ.out _ hxw).2.2.2
            clear hj
            go_simp
            try go_bits
            first | rfl | (rw [if_pos (by omega), if_pos (by omega)]; go_simp; rfl) | (rw [if_pos (by omega)]; go_simp; rfl) | skip
          · have l0 := (HZ.out _ hxw).1.1
            have l1 := (HZ.out _ hxw).1.2.1
            have l2 := (HZ.out _ hxw).1.2.2
            have f0 := (HZ.out _ hxw).2.1
            have f1 := (HZ.out _ hxw).2.2.1
            have f2 := (HZ.out _ hxw).2.2.2
            clear hj
            go_simp
            try go_bits
            first | rfl | (rw [if_pos (by omega), if_pos (by omega)]; go_simp; rfl) | (rw [if_pos (by omega)]; go_simp; rfl) | skip
          · have l0 := (HZ.out _ hxw).1.1
            have l1 := (HZ.out _ hxw).1.2.1
            have l2 := (HZ.out _ hxw).1.2.2
            have f0 := (HZ.out _ hxw).2.1
            have f1 := (HZ.out _ hxw).2.2.1
            have f2 := (HZ.out _ hxw).2.2.2
            clear hj
            go_simp
            try go_bits
            first | rfl | (rw [if_pos (by omega), if_pos (by omega)]; go_simp; rfl) | (rw [if_pos (by omega)]; go_simp; rfl) | skip
          · have l0 := (HZ.out _ hxw).1.1
            have l1 := (HZ.out _ hxw).1.2.1
            have l2 := (HZ.out _ hxw).1.2.2
            have f0 := (HZ.out _ hxw).2.1
            have f1 := (HZ.out _ hxw).2.2.1
            have f2 := (HZ.out _ hxw).2.2.2
            clear hj
            go_simp
            try go_bits
            first | rfl | (rw [if_pos (by omega), if_pos (by omega)]; go_simp; rfl) | (rw [if_pos (by omega)]; go_simp; rfl) | skip
          · have l0 := (HZ.out _ hxw).1.1
            have l1 := (HZ.out _ hxw).1.2.1
            have l2 := (HZ.out _ hxw).1.2.2
            have f0 := (HZ.out _ hxw).2.1
            have f1 := (HZ.out _ hxw).2.2.1
            have f2 := (HZ.out _ hxw).2.2.2
            clear hj
            go_simp
            try go_bits
            first | rfl | (rw [if_pos (by omega), if_pos (by omega)]; go_simp; rfl) | (rw [if_pos (by omega)]; go_simp; rfl) | skip
          · have l0 := (HZ.out _ hxw).1.1
            have l1 := (HZ.out _ hxw).1.2.1
            have l2 := (HZ.out _ hxw).1.2.2
            have f0 := (HZ.out _ hxw).2.1
            have f1 := (HZ.out _ hxw).2.2.1
            have f2 := (HZ.out _ hxw).2.2.2
            clear hj
            go_simp
            try go_bits
            first | rfl | (rw [if_pos (by omega), if_pos (by omega)]; go_simp; rfl) | (rw [if_pos (by omega)]; go_simp; rfl) | skip
          · have l0 := (HZ.out _ hxw).1.1
            have l1 := (HZ.out _ hxw).1.2.1
            have l2 := (HZ.out _ hxw).1.2.2
            have f0 := (HZ.out _ hxw).2.1
            have f1 := (HZ.out _ hxw).2.2.1
            have f2 := (HZ.out _ hxw).2.2.2
            clear hj
            go_simp
            try go_bits
            first | rfl | (rw [if_pos (by omega), if_pos (by omega)]; go_simp; rfl) | (rw [if_pos (by omega)]; go_simp; rfl) | skip
          · have l0 := (HZ.out _ hxw).1.1
            have l1 := (HZ.out _ hxw).1.2.1
            have l2 := (HZ.out _ hxw).1.2.2
            have f0 := (HZ.out _ hxw).2.1
            have f1 := (HZ.out _ hxw).2.2.1
            have f2 := (HZ.out _ hxw).2.2.2
            clear hj
            go_simp
            try go_bits
            first | rfl | (rw [if_pos (by omega), if_pos (by omega)]; go_simp; rfl) | (rw [if_pos (by omega)]; go_simp; rfl) | skip
          · have l0 := (HZ.out _ hxw).1.1
            have l1 := (HZ.out _ hxw).1.2.1
            have l2 := (HZ.out _ hxw).1.2.2
            have f0 := (HZ.out _ hxw).2.1
            have f1 := (HZ.out _ hxw).2.2.1
            have f2 := (HZ.out _ hxw).2.2.2
            clear hj
            go_simp
            try go_bits
            first | rfl | (rw [if_pos (by omega), if_pos (by omega)]; go_simp; rfl) | (rw [if_pos (by omega)]; go_simp; rfl) | skip
          · have l0 := (HZ.out _ hxw).1.1
            have l1 := (HZ.out _ hxw).1.2.1
            have l2 := (HZ.out _ hxw).1.2.2
            have f0 := (HZ.out _ hxw).2.1
            have f1 := (HZ.out _ hxw).2.2.1
            have f2 := (HZ.out _ hxw).2.2.2
            clear hj
            go_simp
            try go_bits
            first | rfl | (rw [if_pos (by omega), if_pos (by omega)]; go_simp; rfl) | (rw [if_pos (by omega)]; go_simp; rfl) | skip
          · have l0 := (HZ.out _ hxw).1.1
            have l1 := (HZ.out _ hxw).1.2.1
            have l2 := (HZ.out _ hxw).1.2.2
            have f0 := (HZ.out _ hxw).2.1
            have f1 := (HZ.out _ hxw).2.2.1
            have f2 := (HZ.out _ hxw).2.2.2
            clear hj
            go_simp
            try go_bits
            first | rfl | (rw [if_pos (by omega), if_pos (by omega)]; go_simp; rfl) | (rw [if_pos (by omega)]; go_simp; rfl) | skip
          · have l0 := (HZ.out _ hxw).1.1
            have l1 := (HZ.out _ hxw).1.2.1
            have l2 := (HZ.out _ hxw).1.2.2
            have f0 := (HZ.out _ hxw).2.1
            have f1 := (HZ.out _ hxw).2.2.1
            have f2 := (HZ.out _ hxw).2.2.2
            clear hj
            go_simp
            try go_bits
            first | rfl | (rw [if_pos (by omega), if_pos (by omega)]; go_simp; rfl) | (rw [if_pos (by omega)]; go_simp; rfl) | skip
          · have l0 := (HZ.out _ hxw).1.1
            have l1 := (HZ.out _ hxw).1.2.1
            have l2 := (HZ.out _ hxw).1.2.2
            have f0 := (HZ.out _ hxw).2.1
            have f1 := (HZ.out _ hxw).2.2.1
            have f2 := (HZ.out _ hxw).2.2.2
            clear hj
            go_simp
            try go_bits
            first | rfl | (rw [if_pos (by omega), if_pos (by omega)]; go_simp; rfl) | (rw [if_pos (by omega)]; go_simp; rfl) | skip
          · have l0 := (HZ.out _ hxw).1.1
            have l1 := (HZ.out _ hxw).1.2.1
            have l2 := (HZ.out _ hxw).1.2.2
            have f0 := (HZ.out _ hxw).2.1
            have f1 := (HZ.out _ hxw).2.2.1
            have f2 := (HZ.out _ hxw).2.2.2
            clear hj
            go_simp
            try go_bits
            first | rfl | (rw [if_pos (by omega), if_pos (by omega)]; go_simp; rfl) | (rw [if_pos (by omega)]; go_simp; rfl) | skip
          · have l0 := (HZ.out _ hxw).1.1
            have l1 := (HZ.out _ hxw).1.2.1
            have l2 := (HZ.out _ hxw).1.2.2
            have f0 := (HZ.out _ hxw).2.1
            have f1 := (HZ.out _ hxw).2.2.1
            have f2 := (HZ.out _ hxw).2.2.2
            clear hj
            go_simp
            try go_bits
            first | rfl | (rw [if_pos (by omega), if_pos (by omega)]; go_simp; rfl) | (rw [if_pos (by omega)]; go_simp; rfl) | skip
          · have l0 := (HZ.out _ hxw).1.1
            have l1 := (HZ.out _ hxw).1.2.1
            have l2 := (HZ.out _ hxw).1.2.2
            have f0 := (HZ.out _ hxw).2.1
            have f1 := (HZ.out _ hxw).2.2.1
            have f2 := (HZ.out _ hxw).2.2.2
            clear hj
            go_simp
            try go_bits
            first | rfl | (rw [if_pos (by omega), if_pos (by omega)]; go_simp; rfl) | (rw [if_pos (by omega)]; go_simp; rfl) | skip
          · have l0 := (HZ.out _ hxw).1.1
            have l1 := (HZ.out _ hxw).1.2.1
            have l2 := (HZ.out _ hxw).1.2.2
            have f0 := (HZ.out _ hxw).2.1
            have f1 := (HZ.out _ hxw).2.2.1
            have f2 := (HZ.out _ hxw).2.2.2
            clear hj
            go_simp
            try go_bits
            first | rfl | (rw [if_pos (by omega), if_pos (by omega)]; go_simp; rfl) | (rw [if_pos (by omega)]; go_simp; rfl) | skip
          · have l0 := (HZ.out _ hxw).1.1
            have l1 := (HZ.out _ hxw).1.2.1
            have l2 := (HZ.out _ hxw).1.2.2
            have f0 := (HZ.out _ hxw).2.1
            have f1 := (HZ.out _ hxw).2.2.1
            have f2 := (HZ.out _ hxw).2.2.2
            clear hj
            go_simp
            try go_bits
            first | rfl | (rw [if_pos (by omega), if_pos (by omega)]; go_simp; rfl) | (rw [if_pos (by omega)]; go_simp; rfl) | skip
          · have l0 := (HZ.out _ hxw).1.1
            have l1 := (HZ.out _ hxw).1.2.1
            have l2 := (HZ.out _ hxw).1.2.2
            have f0 := (HZ.out _ hxw).2.1
            have f1 := (HZ.out _ hxw).2.2.1
            have f2 := (HZ.out _ hxw).2.2.2
            clear hj
            go_simp
            try go_bits
            first | rfl | (rw [if_pos (by omega), if_pos (by omega)]; go_simp; rfl) | (rw [if_pos (by omega)]; go_simp; rfl) | skip
          · have l0 := (HZ.out _ hxw).1.1
            have l1 := (HZ.out _ hxw).1.2.1
            have l2 := (HZ.out _ hxw).1.2.2
            have f0 := (HZ.out _ hxw).2.1
            have f1 := (HZ.out _ hxw).2.2.1
            have f2 := (HZ.out _ hxw).2.2.2
            clear hj
            go_simp
            try go_bits
            first | rfl | (rw [if_pos (by omega), if_pos (by omega)]; go_simp; rfl) | (rw [if_pos (by omega)]; go_simp; rfl) | skip
          · have l0 := (HZ.out _ hxw).1.1
            have l1 := (HZ.out _ hxw).1.2.1
            have l2 := (HZ.out _ hxw).1.2.2
            have f0 := (HZ.out _ hxw).2.1
            have f1 := (HZ.out _ hxw).2.2.1
            have f2 := (HZ.out _ hxw).2.2.2
            clear hj
            go_simp
            try go_bits
            first | rfl | (rw [if_pos (by omega), if_pos (by omega)]; go_simp; rfl) | (rw [if_pos (by omega)]; go_simp; rfl) | skip
          · have l0 := (HZ.out _ hxw).1.1
            have l1 := (HZ.out _ hxw).1.2.1
            have l2 := (HZ.out _ hxw).1.2.2
            have f0 := (HZ.out _ hxw).2.1
            have f1 := (HZ.out _ hxw).2.2.1
            have f2 := (HZ.out _ hxw).2.2.2
            clear hj
            go_simp
            try go_bits
            first | rfl | (rw [if_pos (by omega), if_pos (by omega)]; go_simp; rfl) | (rw [if_pos (by omega)]; go_simp; rfl) | skip
          · have l0 := (HZ.out _ hxw).1.1
            have l1 := (HZ.out _ hxw).1.2.1
            have l2 := (HZ.out _ hxw).1.2.2
            have f0 := (HZ.out _ hxw).2.1
            have f1 := (HZ.out _ hxw).2.2.1
            have f2 := (HZ.out _ hxw).2.2.2
            clear hj
            go_simp
            try go_bits
            first | rfl | (rw [if_pos (by omega), if_pos (by omega)]; go_simp; rfl) | (rw [if_pos (by omega)]; go_simp; rfl) | skip
          · have l0 := (HZ.out _ hxw).1.1
            have l1 := (HZ.out _ hxw).1.2.1
            have l2 := (HZ.out _ hxw).1.2.2
            have f0 := (HZ.out _ hxw).2.1
            have f1 := (HZ.out _ hxw).2.2.1
            have f2 := (HZ.out _ hxw).2.2.2
            clear hj
            go_simp
            try go_bits
            first | rfl | (rw [if_pos (by omega), if_pos (by omega)]; go_simp; rfl) | (rw [if_pos (by omega)]; go_simp; rfl) | skip
          · have l0 := (HZ.out _ hxw).1.1
            have l1 := (HZ.out _ hxw).1.2.1
            have l2 := (HZ.out _ hxw).1.2.2
            have f0 := (HZ.out _ hxw).2.1
            have f1 := (HZ.out _ hxw).2.2.1
            have f2 := (HZ.out _ hxw).2.2.2
            clear hj
            go_simp
            try go_bits
            first | rfl | (rw [if_pos (by omega), if_pos (by omega)]; go_simp; rfl) | (rw [if_pos (by omega)]; go_simp; rfl) | skip
          · have l0 := (HZ.out _ hxw).1.1
            have l1 := (HZ.out _ hxw).1.2.1
            have l2 := (HZ.out _ hxw).1.2.2
            have f0 := (HZ.out _ hxw).2.1
            have f1 := (HZ.out _ hxw).2.2.1
            have f2 := (HZ.out _ hxw).2.2.2
            clear hj
            go_simp
            try go_bits
            first | rfl | (rw [if_pos (by omega), if_pos (by omega)]; go_simp; rfl) | (rw [if_pos (by omega)]; go_simp; rfl) | skip
          · have l0 := (HZ.out _ hxw).1.1
            have l1 := (HZ.out _ hxw).1.2.1
            have l2 := (HZ.out _ hxw).1.2.2
            have f0 := (HZ.out _ hxw).2.1
            have f1 := (HZ.out _ hxw).2.2.1
            have f2 := (HZ.out _ hxw).2.2.2
            clear hj
            go_simp
            try go_bits
            first | rfl | (rw [if_pos (by omega), if_pos (by omega)]; go_simp; rfl) | (rw [if_pos (by omega)]; go_simp; rfl) | skip
          · have l0 := (HZ.out _ hxw).1.1
            have l1 := (HZ.out _ hxw).1.2.1
            have l2 := (HZ.out _ hxw).1.2.2
            have f0 := (HZ.out _ hxw).2.1
            have f1 := (HZ.out _ hxw).2.2.1
            have f2 := (HZ.out _ hxw).2.2.2
            clear hj
            go_simp
            try go_bits
            first | rfl | (rw [if_pos (by omega), if_pos (by omega)]; go_simp; rfl) | (rw [if_pos (by omega)]; go_simp; rfl) | skip
          · have l0 := (HZ.out _ hxw).1.1
            have l1 := (HZ.out _ hxw).1.2.1
            have l2 := (HZ.out _ hxw).1.2.2
            have f0 := (HZ.out _ hxw).2.1
            have f1 := (HZ.out _ hxw).2.2.1
            have f2 := (HZ.out _ hxw).2.2.2
            clear hj
            go_simp
            try go_bits
            first | rfl | (rw [if_pos (by omega), if_pos (by omega)]; go_simp; rfl) | (rw [if_pos (by omega)]; go_simp; rfl) | skip
          · have l0 := (HZ.out _ hxw).1.1
            have l1 := (HZ.out _ hxw).1.2.1
            have l2 := (HZ.out _ hxw).1.2.2
            have f0 := (HZ.out _ hxw).2.1
            have f1 := (HZ.out _ hxw).2.2.1
            have f2 := (HZ.out _ hxw).2.2.2
            clear hj
            go_simp
            try go_bits
            first | rfl | (rw [if_pos (by omega), if_pos (by omega)]; go_simp; rfl) | (rw [if_pos (by omega)]; go_simp; rfl) | skip
          · have l0 := (HZ.out _ hxw).1.1
            have l1 := (HZ.out _ hxw).1.2.1
            have l2 := (HZ.out _ hxw).1.2.2
            have f0 := (HZ.out _ hxw).2.1
            have f1 := (HZ.out _ hxw).2.2.1
            have f2 := (HZ.out _ hxw).2.2.2
            clear hj
            go_simp
            try go_bits
            first | rfl | (rw [if_pos (by omega), if_pos (by omega)]; go_simp; rfl) | (rw [if_pos (by omega)]; go_simp; rfl) | skip
          · have l0 := (HZ.out _ hxw).1.1
            have l1 := (HZ.out _ hxw).1.2.1
            have l2 := (HZ.out _ hxw).1.2.2
            have f0 := (HZ.out _ hxw).2.1
            have f1 := (HZ.out _ hxw).2.2.1
            have f2 := (HZ.out _ hxw).2.2.2
            clear hj
            go_simp
            try go_bits
            first | rfl | (rw [if_pos (by omega), if_pos (by omega)]; go_simp; rfl) | (rw [if_pos (by omega)]; go_simp; rfl) | skip
          · have l0 := (HZ.out _ hxw).1.1
            have l1 := (HZ.out _ hxw).1.2.1
            have l2 := (HZ.out _ hxw).1.2.2
            have f0 := (HZ.out _ hxw).2.1
            have f1 := (HZ.out _ hxw).2.2.1
            have f2 := (HZ.out _ hxw).2.2.2
            clear hj
            go_simp
            try go_bits
            first | rfl | (rw [if_pos (by omega), if_pos (by omega)]; go_simp; rfl) | (rw [if_pos (by omega)]; go_simp; rfl) | skip
          · have l0 := (HZ.out _ hxw).1.1
            have l1 := (HZ.out _ hxw).1.2.1
            have l2 := (HZ.out _ hxw).1.2.2
            have f0 := (HZ.out _ hxw).2.1
            have f1 := (HZ.out _ hxw).2.2.1
            have f2 := (HZ.out _ hxw).2.2.2
            clear hj
            go_simp
            try go_bits
            first | rfl | (rw [if_pos (by omega), if_pos (by omega)]; go_simp; rfl) | (rw [if_pos (by omega)]; go_simp; rfl) | skip
          · have l0 := (HZ.out _ hxw).1.1
            have l1 := (HZ.out _ hxw).1.2.1
            have l2 := (HZ.out _ hxw).1.2.2
            have f0 := (HZ.out _ hxw).2.1
            have f1 := (HZ.out _ hxw).2.2.1
            have f2 := (HZ.out _ hxw).2.2.2
            clear hj
            go_simp
            try go_bits
            first | rfl | (rw [if_pos (by omega), if_pos (by omega)]; go_simp; rfl) | (rw [if_pos (by omega)]; go_simp; rfl) | skip
          · have l0 := (HZ.out _ hxw).1.1
            have l1 := (HZ.out _ hxw).1.2.1
            have l2 := (HZ.out _ hxw).1.2.2
            have f0 := (HZ.out _ hxw).2.1
            have f1 := (HZ.out _ hxw).2.2.1
            have f2 := (HZ.out _ hxw).2.2.2
            clear hj
            go_simp
            try go_bits
            first | rfl | (rw [if_pos (by omega), if_pos (by omega)]; go_simp; rfl) | (rw [if_pos (by omega)]; go_simp; rfl) | skip
          · have l0 := (HZ.out _ hxw).1.1
            have l1 := (HZ.out _ hxw).1.2.1
            have l2 := (HZ.out _ hxw).1.2.2
            have f0 := (HZ.out _ hxw).2.1
            have f1 := (HZ.out _ hxw).2.2.1
            have f2 := (HZ.out _ hxw).2.2.2
            clear hj
            go_simp
            try go_bits
            first | rfl | (rw [if_pos (by omega), if_pos (by omega)]; go_simp; rfl) | (rw [if_pos (by omega)]; go_simp; rfl) | skip
          · have l0 := (HZ.out _ hxw).1.1
            have l1 := (HZ.out _ hxw).1.2.1
            have l2 := (HZ.out _ hxw).1.2.2
            have f0 := (HZ.out _ hxw).2.1
            have f1 := (HZ.out _ hxw).2.2.1
            have f2 := (HZ.out _ hxw).2.2.2
            clear hj
            go_simp
            try go_bits
            first | rfl | (rw [if_pos (by omega), if_pos (by omega)]; go_simp; rfl) | (rw [if_pos (by omega)]; go_simp; rfl) | skip
          · have l0 := (HZ.out _ hxw).1.1
            have l1 := (HZ.out _ hxw).1.2.1
            have l2 := (HZ.out _ hxw).1.2.2
            have f0 := (HZ.out _ hxw).2.1
            have f1 := (HZ.out _ hxw).2.2.1
            have f2 := (HZ.out _ hxw).2.2.2
            clear hj
            go_simp
            try go_bits
            first | rfl | (rw [if_pos (by omega), if_pos (by omega)]; go_simp; rfl) | (rw [if_pos (by omega)]; go_simp; rfl) | skip
          · have l0 := (HZ.out _ hxw).1.1
            have l1 := (HZ.out _ hxw).1.2.1
            have l2 := (HZ.out _ hxw).1.2.2
            have f0 := (HZ.out _ hxw).2.1
            have f1 := (HZ.out _ hxw).2.2.1
            have f2 := (HZ.out _ hxw).2.2.2
            clear hj
            go_simp
            try go_bits
            first | rfl | (rw [if_pos (by omega), if_pos (by omega)]; go_simp; rfl) | (rw [if_pos (by omega)]; go_simp; rfl) | skip
          · have l0 := (HZ.out _ hxw).1.1
            have l1 := (HZ.out _ hxw).1.2.1
            have l2 := (HZ.out _ hxw).1.2.2
            have f0 := (HZ.out _ hxw).2.1
            have f1 := (HZ.out _ hxw).2.2.1
            have f2 := (HZ.out _ hxw).2.2.2
            clear hj
            go_simp
            try go_bits
            first | rfl | (rw [if_pos (by omega), if_pos (by omega)]; go_simp; rfl) | (rw [if_pos (by omega)]; go_simp; rfl) | skip
          · have l0 := (HZ.out _ hxw).1.1
            have l1 := (HZ.out _ hxw).1.2.1
            have l2 := (HZ.out _ hxw).1.2.2
            have f0 := (HZ.out _ hxw).2.1
            have f1 := (HZ.out _ hxw).2.2.1
            have f2 := (HZ.out _ hxw).2.2.2
            clear hj
            go_simp
            try go_bits
            first | rfl | (rw [if_pos (by omega), if_pos (by omega)]; go_simp; rfl) | (rw [if_pos (by omega)]; go_simp; rfl) | skip
          · have l0 := (HZ.out _ hxw).1.1
            have l1 := (HZ.out _ hxw).1.2.1
            have l2 := (HZ.out _ hxw).1.2.2
            have f0 := (HZ.out _ hxw).2.1
            have f1 := (HZ.out _ hxw).2.2.1
            have f2 := (HZ.out _ hxw).2.2.2
            clear hj
            go_simp
            try go_bits
            first | rfl | (rw [if_pos (by omega), if_pos (by omega)]; go_simp; rfl) | (rw [if_pos (by omega)]; go_simp; rfl) | skip
          · have l0 := (HZ.out _ hxw).1.1
            have l1 := (HZ.out _ hxw).1.2.1
            have l2 := (HZ.out _ hxw).1.2.2
            have f0 := (HZ.out _ hxw).2.1
            have f1 := (HZ.out _ hxw).2.2.1
            have f2 := (HZ.out _ hxw).2.2.2
            clear hj
            go_simp
            try go_bits
            first | rfl | (rw [if_pos (by omega), if_pos (by omega)]; go_simp; rfl) | (rw [if_pos (by omega)]; go_simp; rfl) | skip
          · have l0 := (HZ.out _ hxw).1.1
            have l1 := (HZ.out _ hxw).1.2.1
            have l2 := (HZ.out _ hxw).1.2.2
            have f0 := (HZ.out _ hxw).2.1
            have f1 := (HZ.out _ hxw).2.2.1
            have f2 := (HZ.out _ hxw).2.2.2
            clear hj
            go_simp
            try go_bits
            first | rfl | (rw [if_pos (by omega), if_pos (by omega)]; go_simp; rfl) | (rw [if_pos (by omega)]; go_simp; rfl) | skip
        case' hx8_5_p =>
          intro vs w8 hx8 hk
          clear hk
          replace E := Ext.trans E hx8
          go_simp
          clear hx8
          go_wp2
          go_ret
          exact ⟨lab_bool HB.out.symm, Ext.trans HP.out.2.2.2 E⟩
      by_cases h6 : L ≤ z
      · skip
        have HB := Lib.hid (isLab_bad (by rw [← HM.out.2.1]; exact hlt) (okAt_arc (L := L) (S := S) HP.out.2.1 (by omega)))
        go_wp2
        have E := Ext.alloc wr (.cells #[.int .i64 x, .int .i64 y, .int .i64 z] 36)
        refine wp_region_inv (by kernel_rfl) (.known ?hx8_6_v0 :: .known ?hx8_6_v1 :: .known ?hx8_6_v2 :: .known ?hx8_6_v3 :: .known ?hx8_6_v4 :: .known ?hx8_6_v5 :: .known ?hx8_6_v6 :: .known ?hx8_6_v7 :: .known ?hx8_6_v8 :: .known ?hx8_6_v9 :: .known ?hx8_6_v10 :: .known ?hx8_6_v11 :: .known ?hx8_6_v12 :: .known ?hx8_6_v13 :: .known ?hx8_6_v14 :: .known ?hx8_6_v15 :: .known ?hx8_6_v16 :: .known ?hx8_6_v17 :: .known ?hx8_6_v18 :: .known ?hx8_6_v19 :: .known ?hx8_6_v20 :: .known ?hx8_6_v21 :: .known ?hx8_6_v22 :: .known ?hx8_6_v23 :: .known ?hx8_6_v24 :: .known ?hx8_6_v25 :: .known ?hx8_6_v26 :: .known ?hx8_6_v27 :: .known ?hx8_6_v28 :: .known ?hx8_6_v29 :: .known ?hx8_6_v30 :: .known ?hx8_6_v31 :: .known ?hx8_6_v32 :: .known ?hx8_6_v33 :: .known ?hx8_6_v34 :: .known ?hx8_6_v35 :: .known ?hx8_6_v36 :: .known ?hx8_6_v37 :: .known ?hx8_6_v38 :: .known ?hx8_6_v39 :: .known ?hx8_6_v40 :: .known ?hx8_6_v41 :: .known ?hx8_6_v42 :: .known ?hx8_6_v43 :: .known ?hx8_6_v44 :: .known ?hx8_6_v45 :: .known ?hx8_6_v46 :: .known ?hx8_6_v47 :: .known ?hx8_6_v48 :: []) rfl (by kernel_rfl) ?hx8_6_s ?hx8_6_p
        case hx8_6_s =>
          intro vs
          refine ⟨fun w' hxw hj => ?_, fun w' hxw hj => ?_, fun w' hxw hj => ?_, fun w' hxw hj => ?_, fun w' hxw hj => ?_, fun w' hxw hj => ?_, fun w' hxw hj => ?_, fun w' hxw hj => ?_, fun w' hxw hj => ?_, fun w' hxw hj => ?_, fun w' hxw hj => ?_, fun w' hxw hj => ?_, fun w' hxw hj => ?_, fun w' hxw hj => ?_, fun w' hxw hj => ?_, fun w' hxw hj => ?_, fun w' hxw hj => ?_, fun w' hxw hj => ?_, fun w' hxw hj => ?_, fun w' hxw hj => ?_, fun w' hxw hj => ?_, fun w' hxw hj => ?_, fun w' hxw hj => ?_, fun w' hxw hj => ?_, fun w' hxw hj => ?_, fun w' hxw hj => ?_, fun w' hxw hj => ?_, fun w' hxw hj => ?_, fun w' hxw hj => ?_, fun w' hxw hj => ?_, fun w' hxw hj => ?_, fun w' hxw hj => ?_, fun w' hxw hj => ?_, fun w' hxw hj => ?_, fun w' hxw hj => ?_, fun w' hxw hj => ?_, fun w' hxw hj => ?_, fun w' hxw hj => ?_, fun w' hxw hj => ?_, fun w' hxw hj => ?_, fun w' hxw hj => ?_, fun w' hxw hj => ?_, fun w' hxw hj => ?_, fun w' hxw hj => ?_, fun w' hxw hj => ?_, fun w' hxw hj => ?_, fun w' hxw hj => ?_, fun w' hxw hj => ?_, fun w' hxw hj => ?_, trivial⟩
          · have l0 := (HZ.out _ hxw).1.1
            have l1 := (HZ.out _ hxw).1.2.1
            have l2 := (HZ.out _ hxw).1.2.2
            have f0 := (HZ.out _ hxw).2.1
            have f1 := (HZ.out _ hxw).2.2.1
            have f2 := (HZ.out _ hxw).2.2.2
            clear hj
            go_simp
            try go_bits
            first | rfl | (rw [if_pos (by omega), if_pos (by omega)]; go_simp; rfl) | (rw [if_pos (by omega)]; go_simp; rfl) | skip
          · have l0 := (HZ.out _ hxw).1.1
            have l1 := (HZ.out _ hxw).1.2.1
            have l2 := (HZ.out _ hxw).1.2.2
            have f0 := (HZ.out _ hxw).2.1
            have f1 := (HZ.out _ hxw).2.2.1
            have f2 := (HZ.out _ hxw).2.2.2
            clear hj
            go_simp
            try go_bits
            first | rfl | (rw [if_pos (by omega), if_pos (by omega)]; go_simp; rfl) | (rw [if_pos (by omega)]; go_simp; rfl) | skip
          · have l0 := (HZ.out _ hxw).1.1
            have l1 := (HZ.out _ hxw).1.2.1
            have l2 := (HZ.out _ hxw).1.2.2
            have f0 := (HZ.out _ hxw).2.1
            have f1 := (HZ.out _ hxw).2.2.1
            have f2 := (HZ.out _ hxw).2.2.2
            clear hj
            go_simp
            try go_bits
            first | rfl | (rw [if_pos (by omega), if_pos (by omega)]; go_simp; rfl) | (rw [if_pos (by omega)]; go_simp; rfl) | skip
          · have l0 := (HZ.out _ hxw).1.1
            have l1 := (HZ.out _ hxw).1.2.1
            have l2 := (HZ.out _ hxw).1.2.2
            have f0 := (HZ.out _ hxw).2.1
            have f1 := (HZ.out _ hxw).2.2.1
            have f2 := (HZ.out _ hxw).2.2.2
            clear hj
            go_simp
            try go_bits
            first | rfl | (rw [if_pos (by omega), if_pos (by omega)]; go_simp; rfl) | (rw [if_pos (by omega)]; go_simp; rfl) | skip
          · have l0 := (HZ.out _ hxw).1.1
            have l1 := (HZ.out _ hxw).1.2.1
            have l2 := (HZ.out _ hxw).1.2.2
            have f0 := (HZ.out _ hxw).2.1
            have f1 := (HZ.out _ hxw).2.2.1
            have f2 := (HZ.out _ hxw).2.2.2
            clear hj
            go_simp
            try go_bits
            first | rfl | (rw [if_pos (by omega), if_pos (by omega)]; go_simp; rfl) | (rw [if_pos (by omega)]; go_simp; rfl) | skip
          · have l0 := (HZ.out _ hxw).1.1
            have l1 := (HZ.out _ hxw).1.2.1
            have l2 := (HZ.out _ hxw).1.2.2
            have f0 := (HZ.out _ hxw).2.1
            have f1 := (HZ.out _ hxw).2.2.1
            have f2 := (HZ.out _ hxw).2.2.2
            clear hj
            go_simp
            try go_bits
            first | rfl | (rw [if_pos (by omega), if_pos (by omega)]; go_simp; rfl) | (rw [if_pos (by omega)]; go_simp; rfl) | skip
          · have l0 := (HZ.out _ hxw).1.1
            have l1 := (HZ.out _ hxw).1.2.1
            have l2 := (HZ.out _ hxw).1.2.2
            have f0 := (HZ.out _ hxw).2.1
            have f1 := (HZ.out _ hxw).2.2.1
            have f2 := (HZ.out _ hxw).2.2.2
            clear hj
            go_simp
            try go_bits
            first | rfl | (rw [if_pos (by omega), if_pos (by omega)]; go_simp; rfl) | (rw [if_pos (by omega)]; go_simp; rfl) | skip
          · have l0 := (HZ.out _ hxw).1.1
            have l1 := (HZ.out _ hxw).1.2.1
            have l2 := (HZ.out _ hxw).1.2.2
            have f0 := (HZ.out _ hxw).2.1
            have f1 := (HZ.out _ hxw).2.2.1
            have f2 := (HZ.out _ hxw).2.2.2
            clear hj
            go_simp
            try go_bits
            first | rfl | (rw [if_pos (by omega), if_pos (by omega)]; go_simp; rfl) | (rw [if_pos (by omega)]; go_simp; rfl) | skip
          · have l0 := (HZ.out _ hxw).1.1
            have l1 := (HZ.out _ hxw).1.2.1
            have l2 := (HZ.out _ hxw).1.2.2
            have f0 := (HZ.out _ hxw).2.1
            have f1 := (HZ.out _ hxw).2.2.1
            have f2 := (HZ.out _ hxw).2.2.2
            clear hj
            go_simp
            try go_bits
            first | rfl | (rw [if_pos (by omega), if_pos (by omega)]; go_simp; rfl) | (rw [if_pos (by omega)]; go_simp; rfl) | skip
          · have l0 := (HZ.out _ hxw).1.1
            have l1 := (HZ.out _ hxw).1.2.1
            have l2 := (HZ.out _ hxw).1.2.2
            have f0 := (HZ.out _ hxw).2.1
            have f1 := (HZ.out _ hxw).2.2.1
            have f2 := (HZ.out _ hxw).2.2.2
            clear hj
            go_simp
            try go_bits
            first | rfl | (rw [if_pos (by omega), if_pos (by omega)]; go_simp; rfl) | (rw [if_pos (by omega)]; go_simp; rfl) | skip
          · have l0 := (HZ.out _ hxw).1.1
            have l1 := (HZ.out _ hxw).1.2.1
            have l2 := (HZ.out _ hxw).1.2.2
            have f0 := (HZ.out _ hxw).2.1
            have f1 := (HZ.out _ hxw).2.2.1
            have f2 := (HZ.out _ hxw).2.2.2
            clear hj
            go_simp
            try go_bits
            first | rfl | (rw [if_pos (by omega), if_pos (by omega)]; go_simp; rfl) | (rw [if_pos (by omega)]; go_simp; rfl) | skip
          · have l0 := (HZ.out _ hxw).1.1
            have l1 := (HZ.out _ hxw).1.2.1
            have l2 := (HZ.out _ hxw).1.2.2
            have f0 := (HZ.out _ hxw).2.1
            have f1 := (HZ.out _ hxw).2.2.1
            have f2 := (HZ.out _ hxw).2.2.2
            clear hj
            go_simp
            try go_bits
            first | rfl | (rw [if_pos (by omega), if_pos (by omega)]; go_simp; rfl) | (rw [if_pos (by omega)]; go_simp; rfl) | skip
          · have l0 := (HZ.out _ hxw).1.1
            have l1 := (HZ.out _ hxw).1.2.1
            have l2 := (HZ.out _ hxw).1.2.2
            have f0 := (HZ.out _ hxw).2.1
            have f1 := (HZ.out _ hxw).2.2.1
            have f2 := (HZ.out _ hxw).2.2.2
            clear hj
            go_simp
            try go_bits
            first | rfl | (rw [if_pos (by omega), if_pos (by omega)]; go_simp; rfl) | (rw [if_pos (by omega)]; go_simp; rfl) | skip
          · have l0 := (HZ.out _ hxw).1.1
            have l1 := (HZ.out _ hxw).1.2.1
            have l2 := (HZ.out _ hxw).1.2.2
            have f0 := (HZ.out _ hxw).2.1
            have f1 := (HZ.out _ hxw).2.2.1
            have f2 := (HZ.out _ hxw).2.2.2
            clear hj
            go_simp
            try go_bits
            first | rfl | (rw [if_pos (by omega), if_pos (by omega)]; go_simp; rfl) | (rw [if_pos (by omega)]; go_simp; rfl) | skip
          · have l0 := (HZ.out _ hxw).1.1
            have l1 := (HZ.out _ hxw).1.2.1
            have l2 := (HZ.out _ hxw).1.2.2
            have f0 := (HZ.out _ hxw).2.1
            have f1 := (HZ.out _ hxw).2.2.1
            have f2 := (HZ.out _ hxw).2.2.2
            clear hj
            go_simp
            try go_bits
            first | rfl | (rw [if_pos (by omega), if_pos (by omega)]; go_simp; rfl) | (rw [if_pos (by omega)]; go_simp; rfl) | skip
          · have l0 := (HZ.out _ hxw).1.1
            have l1 := (HZ.out _ hxw).1.2.1
            have l2 := (HZ.out _ hxw).1.2.2
            have f0 := (HZ.out _ hxw).2.1
            have f1 := (HZ.out _ hxw).2.2.1
            have f2 := (HZ.out _ hxw).2.2.2
            clear hj
            go_simp
            try go_bits
            first | rfl | (rw [if_pos (by omega), if_pos (by omega)]; go_simp; rfl) | (rw [if_pos (by omega)]; go_simp; rfl) | skip
          · have l0 := (HZ.out _ hxw).1.1
            have l1 := (HZ.out _ hxw).1.2.1
            have l2 := (HZ.out _ hxw).1.2.2
            have f0 := (HZ.out _ hxw).2.1
            have f1 := (HZ.out _ hxw).2.2.1
            have f2 := (HZ.out _ hxw).2.2.2
            clear hj
            go_simp
            try go_bits
            first | rfl | (rw [if_pos (by omega), if_pos (by omega)]; go_simp; rfl) | (rw [if_pos (by omega)]; go_simp; rfl) | skip
          · have l0 := (HZ.out _ hxw).1.1
            have l1 := (HZ.out _ hxw).1.2.1
            have l2 := (HZ.out _ hxw).1.2.2
            have f0 := (HZ.out _ hxw).2.1
            have f1 := (HZ.out _ hxw).2.2.1
            have f2 := (HZ.out _ hxw).2.2.2
            clear hj
            go_simp
            try go_bits
            first | rfl | (rw [if_pos (by omega), if_pos (by omega)]; go_simp; rfl) | (rw [if_pos (by omega)]; go_simp; rfl) | skip
          · have l0 := (HZ.out _ hxw).1.1
            have l1 := (HZ.out _ hxw).1.2.1
            have l2 := (HZ.out _ hxw).1.2.2
            have f0 := (HZ.out _ hxw).2.1
            have f1 := (HZ.out _ hxw).2.2.1
            have f2 := (HZ.out _ hxw).2.2.2
            clear hj
            go_simp
            try go_bits
            first | rfl | (rw [if_pos (by omega), if_pos (by omega)]; go_simp; rfl) | (rw [if_pos (by omega)]; go_simp; rfl) | skip
          · have l0 := (HZ.out _ hxw).1.1
            have l1 := (HZ.out _ hxw).1.2.1
            have l2 := (HZ.out _ hxw).1.2.2
            have f0 := (HZ.out _ hxw).2.1
            have f1 := (HZ.out _ hxw).2.2.1
            have f2 := (HZ.out _ hxw).2.2.2
            clear hj
            go_simp
            try go_bits
            first | rfl | (rw [if_pos (by omega), if_pos (by omega)]; go_simp; rfl) | (rw [if_pos (by omega)]; go_simp; rfl) | skip
          · have l0 := (HZ.out _ hxw).1.1
            have l1 := (HZ.out _ hxw).1.2.1
            have l2 := (HZ.out _ hxw).1.2.2
            have f0 := (HZ.out _ hxw).2.1
            have f1 := (HZ.out _ hxw).2.2.1
            have f2 := (HZ.out _ hxw).2.2.2
            clear hj
            go_simp
            try go_bits
            first | rfl | (rw [if_pos (by omega), if_pos (by omega)]; go_simp; rfl) | (rw [if_pos (by omega)]; go_simp; rfl) | skip
          · have l0 := (HZ.out _ hxw).1.1
            have l1 := (HZ.out _ hxw).1.2.1
            have l2 := (HZ.out _ hxw).1.2.2
            have f0 := (HZ.out _ hxw).2.1
            have f1 := (HZ.out _ hxw).2.2.1
            have f2 := (HZ.out _ hxw).2.2.2
            clear hj
            go_simp
            try go_bits
            first | rfl | (rw [if_pos (by omega), if_pos (by omega)]; go_simp; rfl) | (rw [if_pos (by omega)]; go_simp; rfl) | skip
          · have l0 := (HZ.out _ hxw).1.1
            have l1 := (HZ.out _ hxw).1.2.1
            have l2 := (HZ.out _ hxw).1.2.2
            have f0 := (HZ.out _ hxw).2.1
            have f1 := (HZ.out _ hxw).2.2.1
            have f2 := (HZ.out _ hxw).2.2.2
            clear hj
            go_simp
            try go_bits
            first | rfl | (rw [if_pos (by omega), if_pos (by omega)]; go_simp; rfl) | (rw [if_pos (by omega)]; go_simp; rfl) | skip
          · have l0 := (HZ.out _ hxw).1.1
            have l1 := (HZ.out _ hxw).1.2.1
            have l2 := (HZ.out _ hxw).1.2.2
            have f0 := (HZ.out _ hxw).2.1
            have f1 := (HZ.out _ hxw).2.2.1
            have f2 := (HZ.out _ hxw).2.2.2
            clear hj
            go_simp
            try go_bits
            first | rfl | (rw [if_pos (by omega), if_pos (by omega)]; go_simp; rfl) | (rw [if_pos (by omega)]; go_simp; rfl) | skip
          · have l0 := (HZ.out _ hxw).1.1
            have l1 := (HZ.out _ hxw).1.2.1
            have l2 := (HZ.out _ hxw).1.2.2
            have f0 := (HZ.out _ hxw).2.1
            have f1 := (HZ.out _ hxw).2.2.1
            have f2 := (HZ.out _ hxw).2.2.2
            clear hj
            go_simp
            try go_bits
            first | rfl | (rw [if_pos (by omega), if_pos (by omega)]; go_simp; rfl) | (rw [if_pos (by omega)]; go_simp; rfl) | skip
          · have l0 := (HZ.out _ hxw).1.1
            have l1 := (HZ.out _ hxw).1.2.1
            have l2 := (HZ.out _ hxw).1.2.2
            have f0 := (HZ.out _ hxw).2.1
            have f1 := (HZ.out _ hxw).2.2.1
            have f2 := (HZ.out _ hxw).2.2.2
            clear hj
            go_simp
            try go_bits
            first | rfl | (rw [if_pos (by omega), if_pos (by omega)]; go_simp; rfl) | (rw [if_pos (by omega)]; go_simp; rfl) | skip
          · have l0 := (HZ.out _ hxw).1.1
            have l1 := (HZ.out _ hxw).1.2.1
            have l2 := (HZ.out _ hxw).1.2.2
            have f0 := (HZ.out _ hxw).2.1
            have f1 := (HZ.out _ hxw).2.2.1
            have f2 := (HZ.out _ hxw).2.2.2
            clear hj
            go_simp
            try go_bits
            first | rfl | (rw [if_pos (by omega), if_pos (by omega)]; go_simp; rfl) | (rw [if_pos (by omega)]; go_simp; rfl) | skip
          · have l0 := (HZ.out _ hxw).1.1
            have l1 := (HZ.out _ hxw).1.2.1
            have l2 := (HZ.out _ hxw).1.2.2
            have f0 := (HZ.out _ hxw).2.1
            have f1 := (HZ.out _ hxw).2.2.1
            have f2 := (HZ.out _ hxw).2.2.2
            clear hj
            go_simp
            try go_bits
            first | rfl | (rw [if_pos (by omega), if_pos (by omega)]; go_simp; rfl) | (rw [if_pos (by omega)]; go_simp; rfl) | skip
          · have l0 := (HZ.out _ hxw).1.1
            have l1 := (HZ.out _ hxw).1.2.1
            have l2 := (HZ.out _ hxw).1.2.2
            have f0 := (HZ.out _ hxw).2.1
            have f1 := (HZ.out _ hxw).2.2.1
            have f2 := (HZ.out _ hxw).2.2.2
            clear hj
            go_simp
            try go_bits
            first | rfl | (rw [if_pos (by omega), if_pos (by omega)]; go_simp; rfl) | (rw [if_pos (by omega)]; go_simp; rfl) | skip
          · have l0 := (HZ.out _ hxw).1.1
            have l1 := (HZ.out _ hxw).1.2.1
            have l2 := (HZ.out _ hxw).1.2.2
            have f0 := (HZ.out _ hxw).2.1
            have f1 := (HZ.out _ hxw).2.2.1
            have f2 := (HZ.out _ hxw).2.2.2
            clear hj
            go_simp
            try go_bits
            first | rfl | (rw [if_pos (by omega), if_pos (by omega)]; go_simp; rfl) | (rw [if_pos (by omega)]; go_simp; rfl) | skip
          · have l0 := (HZ.out _ hxw).1.1
            have l1 := (HZ.out _ hxw).1.2.1
            have l2 := (HZ.out _ hxw).1.2.2
            have f0 := (HZ.out _ hxw).2.1
            have f1 := (HZ.out _ hxw).2.2.1
            have f2 := (HZ.out _ hxw).2.2.2
            clear hj
            go_simp
            try go_bits
            first | rfl | (rw [if_pos (by omega), if_pos (by omega)]; go_simp; rfl) | (rw [if_pos (by omega)]; go_simp; rfl) | skip
          · have l0 := (HZ.out _ hxw).1.1
            have l1 := (HZ.out _ hxw).1.2.1
            have l2 := (HZ.out _ hxw).1.2.2
            have f0 := (HZ.out _ hxw).2.1
            have f1 := (HZ.out _ hxw).2.2.1
            have f2 := (HZ.out _ hxw).2.2.2
            clear hj
            go_simp
            try go_bits
            first | rfl | (rw [if_pos (by omega), if_pos (by omega)]; go_simp; rfl) | (rw [if_pos (by omega)]; go_simp; rfl) | skip
          · have l0 := (HZ.out _ hxw).1.1
            have l1 := (HZ.out _ hxw).1.2.1
            have l2 := (HZ.out _ hxw).1.2.2
            have f0 := (HZ.out _ hxw).2.1
            have f1 := (HZ.out _ hxw).2.2.1
            have f2 := (HZ.out _ hxw).2.2.2
            clear hj
            go_simp
            try go_bits
            first | rfl | (rw [if_pos (by omega), if_pos (by omega)]; go_simp; rfl) | (rw [if_pos (by omega)]; go_simp; rfl) | skip
          · have l0 := (HZ.out _ hxw).1.1
            have l1 := (HZ.out _ hxw).1.2.1
            have l2 := (HZ.out _ hxw).1.2.2
            have f0 := (HZ.out _ hxw).2.1
            have f1 := (HZ.out _ hxw).2.2.1
            have f2 := (HZ.out _ hxw).2.2.2
            clear hj
            go_simp
            try go_bits
            first | rfl | (rw [if_pos (by omega), if_pos (by omega)]; go_simp; rfl) | (rw [if_pos (by omega)]; go_simp; rfl) | skip
          · have l0 := (HZ.out _ hxw).1.1
            have l1 := (HZ.out _ hxw).1.2.1
            have l2 := (HZ.out _ hxw).1.2.2
            have f0 := (HZ.out _ hxw).2.1
            have f1 := (HZ.out _ hxw).2.2.1
            have f2 := (HZ.out _ hxw).2.2.2
            clear hj
            go_simp
            try go_bits
            first | rfl | (rw [if_pos (by omega), if_pos (by omega)]; go_simp; rfl) | (rw [if_pos (by omega)]; go_simp; rfl) | skip
          · have l0 := (HZ.out _ hxw).1.1
            have l1 := (HZ.out _ hxw).1.2.1
            have l2 := (HZ.out _ hxw).1.2.2
            have f0 := (HZ.out _ hxw).2.1
            have f1 := (HZ.out _ hxw).2.2.1
            have f2 := (HZ.out _ hxw).2.2.2
            clear hj
            go_simp
            try go_bits
            first | rfl | (rw [if_pos (by omega), if_pos (by omega)]; go_simp; rfl) | (rw [if_pos (by omega)]; go_simp; rfl) | skip
          · have l0 := (HZ.out _ hxw).1.1
            have l1 := (HZ.out _ hxw).1.2.1
            have l2 := (HZ.out _ hxw).1.2.2
            have f0 := (HZ.out _ hxw).2.1
            have f1 := (HZ.out _ hxw).2.2.1
            have f2 := (HZ.out _ hxw).2.2.2
            clear hj
            go_simp
            try go_bits
            first | rfl | (rw [if_pos (by omega), if_pos (by omega)]; go_simp; rfl) | (rw [if_pos (by omega)]; go_simp; rfl) | skip
          · have l0 := (HZ.out _ hxw).1.1
            have l1 := (HZ.out _ hxw).1.2.1
            have l2 := (HZ.out _ hxw).1.2.2
            have f0 := (HZ.out _ hxw).2.1
            have f1 := (HZ.out _ hxw).2.2.1
            have f2 := (HZ.out _ hxw).2.2.2
            clear hj
            go_simp
            try go_bits
            first | rfl | (rw [if_pos (by omega), if_pos (by omega)]; go_simp; rfl) | (rw [if_pos (by omega)]; go_simp; rfl) | skip
          · have l0 := (HZ.out _ hxw).1.1
            have l1 := (HZ.out _ hxw).1.2.1
            have l2 := (HZ.out _ hxw).1.2.2
            have f0 := (HZ.out _ hxw).2.1
            have f1 := (HZ.out _ hxw).2.2.1
            have f2 := (HZ.out _ hxw).2.2.2
            clear hj
            go_simp
            try go_bits
            first | rfl | (rw [if_pos (by omega), if_pos (by omega)]; go_simp; rfl) | (rw [if_pos (by omega)]; go_simp; rfl) | skip
          · have l0 := (HZ.out _ hxw).1.1
            have l1 := (HZ.out _ hxw).1.2.1
            have l2 := (HZ.out _ hxw).1.2.2
            have f0 := (HZ.out _ hxw).2.1
            have f1 := (HZ.out _ hxw).2.2.1
            have f2 := (HZ.out _ hxw).2.2.2
            clear hj
            go_simp
            try go_bits
            first | rfl | (rw [if_pos (by omega), if_pos (by omega)]; go_simp; rfl) | (rw [if_pos (by omega)]; go_simp; rfl) | skip
          · have l0 := (HZ.out _ hxw).1.1
            have l1 := (HZ.out _ hxw).1.2.1
            have l2 := (HZ.out _ hxw).1.2.2
            have f0 := (HZ.out _ hxw).2.1
            have f1 := (HZ.out _ hxw).2.2.1
            have f2 := (HZ.out _ hxw).2.2.2
            clear hj
            go_simp
            try go_bits
            first | rfl | (rw [if_pos (by omega), if_pos (by omega)]; go_simp; rfl) | (rw [if_pos (by omega)]; go_simp; rfl) | skip
          · have l0 := (HZ.out _ hxw).1.1
            have l1 := (HZ.out _ hxw).1.2.1
            have l2 := (HZ.out _ hxw).1.2.2
            have f0 := (HZ.out _ hxw).2.1
            have f1 := (HZ.out _ hxw).2.2.1
            have f2 := (HZ.out _ hxw).2.2.2
            clear hj
            go_simp
            try go_bits
            first | rfl | (rw [if_pos (by omega), if_pos (by omega)]; go_simp; rfl) | (rw [if_pos (by omega)]; go_simp; rfl) | skip
          · have l0 := (HZ.out _ hxw).1.1
            have l1 := (HZ.out _ hxw).1.2.1
            have l2 := (HZ.out _ hxw).1.2.2
            have f0 := (HZ.out _ hxw).2.1
            have f1 := (HZ.out _ hxw).2.2.1
            have f2 := (HZ.out _ hxw).2.2.2
            clear hj
            go_simp
            try go_bits
            first | rfl | (rw [if_pos (by omega), if_pos (by omega)]; go_simp; rfl) | (rw [if_pos (by omega)]; go_simp; rfl) | skip
          · have l0 := (HZ.out _ hxw).1.1
            have l1 := (HZ.out _ hxw).1.2.1
            have l2 := (HZ.out _ hxw).1.2.2
            have f0 := (HZ.out _ hxw).2.1
            have f1 := (HZ.out _ hxw).2.2.1
            have f2 := (HZ.out _ hxw).2.2.2
            clear hj
            go_simp
            try go_bits
            first | rfl | (rw [if_pos (by omega), if_pos (by omega)]; go_simp; rfl) | (rw [if_pos (by omega)]; go_simp; rfl) | skip
          · have l0 := (HZ.out _ hxw).1.1
            have l1 := (HZ.out _ hxw).1.2.1
            have l2 := (HZ.out _ hxw).1.2.2
            have f0 := (HZ.out _ hxw).2.1
            have f1 := (HZ.out _ hxw).2.2.1
            have f2 := (HZ.out _ hxw).2.2.2
            clear hj
            go_simp
            try go_bits
            first | rfl | (rw [if_pos (by omega), if_pos (by omega)]; go_simp; rfl) | (rw [if_pos (by omega)]; go_simp; rfl) | skip
          · have l0 := (HZ.out _ hxw).1.1
            have l1 := (HZ.out _ hxw).1.2.1
            have l2 := (HZ.out _ hxw).1.2.2
            have f0 := (HZ.out _ hxw).2.1
            have f1 := (HZ.out _ hxw).2.2.1
            have f2 := (HZ.out _ hxw).2.2.2
            clear hj
            go_simp
            try go_bits
            first | rfl | (rw [if_pos (by omega), if_pos (by omega)]; go_simp; rfl) | (rw [if_pos (by omega)]; go_simp; rfl) | skip
          · have l0 := (HZ.out _ hxw).1.1
            have l1 := (HZ.out _ hxw).1.2.1
            have l2 := (HZ.out _ hxw).1.2.2
            have f0 := (HZ.out _ hxw).2.1
            have f1 := (HZ.out _ hxw).2.2.1
            have f2 := (HZ.out _ hxw).2.2.2
            clear hj
            go_simp
            try go_bits
            first | rfl | (rw [if_pos (by omega), if_pos (by omega)]; go_simp; rfl) | (rw [if_pos (by omega)]; go_simp; rfl) | skip
          · have l0 := (HZ.out _ hxw).1.1
            have l1 := (HZ.out _ hxw).1.2.1
            have l2 := (HZ.out _ hxw).1.2.2
            have f0 := (HZ.out _ hxw).2.1
            have f1 := (HZ.out _ hxw).2.2.1
            have f2 := (HZ.out _ hxw).2.2.2
            clear hj
            go_simp
            try go_bits
            first | rfl | (rw [if_pos (by omega), if_pos (by omega)]; go_simp; rfl) | (rw [if_pos (by omega)]; go_simp; rfl) | skip
          · have l0 := (HZ.out _ hxw).1.1
            have l1 := (HZ.out _ hxw).1.2.1
            have l2 := (HZ.out _ hxw).1.2.2
            have f0 := (HZ.out _ hxw).2.1
            have f1 := (HZ.out _ hxw).2.2.1
            have f2 := (HZ.out _ hxw).2.2.2
            clear hj
            go_simp
            try go_bits
            first | rfl | (rw [if_pos (by omega), if_pos (by omega)]; go_simp; rfl) | (rw [if_pos (by omega)]; go_simp; rfl) | skip
        case' hx8_6_p =>
          intro vs w8 hx8 hk
          clear hk
          replace E := Ext.trans E hx8
          go_simp
          clear hx8
          go_wp2
          go_ret
          exact ⟨lab_bool HB.out.symm, Ext.trans HP.out.2.2.2 E⟩
      have hok : 0 ≤ x ∧ x < S ∧ 0 ≤ y ∧ y < S ∧ 0 ≤ z ∧ z < L := by omega
      have HO := Lib.hid hok
      clear hok
      by_cases hk0 : k = 0
      · subst hk0
        simp only [Nat.zero_mul, Nat.add_zero] at k0 k1 k2
        have HK := Lib.hid (okAt_zero HP.out.2.1 HO.out)
        go_wp2
        have E := Ext.alloc wr (.cells #[.int .i64 x, .int .i64 y, .int .i64 z] 36)
        refine wp_region_inv (by kernel_rfl) (.known ?hx8_7_v0 :: .known ?hx8_7_v1 :: .known ?hx8_7_v2 :: .known ?hx8_7_v3 :: .known ?hx8_7_v4 :: .known ?hx8_7_v5 :: .known ?hx8_7_v6 :: .known ?hx8_7_v7 :: .known ?hx8_7_v8 :: .known ?hx8_7_v9 :: .known ?hx8_7_v10 :: .known ?hx8_7_v11 :: .known ?hx8_7_v12 :: .known ?hx8_7_v13 :: .known ?hx8_7_v14 :: .known ?hx8_7_v15 :: .known ?hx8_7_v16 :: .known ?hx8_7_v17 :: .known ?hx8_7_v18 :: .known ?hx8_7_v19 :: .known ?hx8_7_v20 :: .known ?hx8_7_v21 :: .known ?hx8_7_v22 :: .known ?hx8_7_v23 :: .known ?hx8_7_v24 :: .known ?hx8_7_v25 :: .known ?hx8_7_v26 :: .known ?hx8_7_v27 :: .known ?hx8_7_v28 :: .known ?hx8_7_v29 :: .known ?hx8_7_v30 :: .known ?hx8_7_v31 :: .known ?hx8_7_v32 :: .known ?hx8_7_v33 :: .known ?hx8_7_v34 :: .known ?hx8_7_v35 :: .known ?hx8_7_v36 :: .known ?hx8_7_v37 :: .known ?hx8_7_v38 :: .known ?hx8_7_v39 :: .known ?hx8_7_v40 :: .known ?hx8_7_v41 :: .known ?hx8_7_v42 :: .known ?hx8_7_v43 :: .known ?hx8_7_v44 :: .known ?hx8_7_v45 :: .known ?hx8_7_v46 :: .known ?hx8_7_v47 :: .known ?hx8_7_v48 :: []) rfl (by kernel_rfl) ?hx8_7_s ?hx8_7_p
        case hx8_7_s =>
          intro vs
          refine ⟨fun w' hxw hj => ?_, fun w' hxw hj => ?_, fun w' hxw hj => ?_, fun w' hxw hj => ?_, fun w' hxw hj => ?_, fun w' hxw hj => ?_, fun w' hxw hj => ?_, fun w' hxw hj => ?_, fun w' hxw hj => ?_, fun w' hxw hj => ?_, fun w' hxw hj => ?_, fun w' hxw hj => ?_, fun w' hxw hj => ?_, fun w' hxw hj => ?_, fun w' hxw hj => ?_, fun w' hxw hj => ?_, fun w' hxw hj => ?_, fun w' hxw hj => ?_, fun w' hxw hj => ?_, fun w' hxw hj => ?_, fun w' hxw hj => ?_, fun w' hxw hj => ?_, fun w' hxw hj => ?_, fun w' hxw hj => ?_, fun w' hxw hj => ?_, fun w' hxw hj => ?_, fun w' hxw hj => ?_, fun w' hxw hj => ?_, fun w' hxw hj => ?_, fun w' hxw hj => ?_, fun w' hxw hj => ?_, fun w' hxw hj => ?_, fun w' hxw hj => ?_, fun w' hxw hj => ?_, fun w' hxw hj => ?_, fun w' hxw hj => ?_, fun w' hxw hj => ?_, fun w' hxw hj => ?_, fun w' hxw hj => ?_, fun w' hxw hj => ?_, fun w' hxw hj => ?_, fun w' hxw hj => ?_, fun w' hxw hj => ?_, fun w' hxw hj => ?_, fun w' hxw hj => ?_, fun w' hxw hj => ?_, fun w' hxw hj => ?_, fun w' hxw hj => ?_, fun w' hxw hj => ?_, trivial⟩
          · have l0 := (HZ.out _ hxw).1.1
            have l1 := (HZ.out _ hxw).1.2.1
            have l2 := (HZ.out _ hxw).1.2.2
            have f0 := (HZ.out _ hxw).2.1
            have f1 := (HZ.out _ hxw).2.2.1
            have f2 := (HZ.out _ hxw).2.2.2
            clear hj
            go_simp
            try go_bits
            first | rfl | (rw [if_pos (by omega), if_pos (by omega)]; go_simp; rfl) | (rw [if_pos (by omega)]; go_simp; rfl) | skip
          · have l0 := (HZ.out _ hxw).1.1
            have l1 := (HZ.out _ hxw).1.2.1
            have l2 := (HZ.out _ hxw).1.2.2
            have f0 := (HZ.out _ hxw).2.1
            have f1 := (HZ.out _ hxw).2.2.1
            have f2 := (HZ.out _ hxw).2.2.2
            clear hj
            go_simp
            try go_bits
            first | rfl | (rw [if_pos (by omega), if_pos (by omega)]; go_simp; rfl) | (rw [if_pos (by omega)]; go_simp; rfl) | skip
          · have l0 := (HZ.out _ hxw).1.1
            have l1 := (HZ.out _ hxw).1.2.1
            have l2 := (HZ.out _ hxw).1.2.2
            have f0 := (HZ.out _ hxw).2.1
            have f1 := (HZ.out _ hxw).2.2.1
            have f2 := (HZ.out _ hxw).2.2.2
            clear hj
            go_simp
            try go_bits
            first | rfl | (rw [if_pos (by omega), if_pos (by omega)]; go_simp; rfl) | (rw [if_pos (by omega)]; go_simp; rfl) | skip
          · have l0 := (HZ.out _ hxw).1.1
            have l1 := (HZ.out _ hxw).1.2.1
            have l2 := (HZ.out _ hxw).1.2.2
            have f0 := (HZ.out _ hxw).2.1
            have f1 := (HZ.out _ hxw).2.2.1
            have f2 := (HZ.out _ hxw).2.2.2
            clear hj
            go_simp
            try go_bits
            first | rfl | (rw [if_pos (by omega), if_pos (by omega)]; go_simp; rfl) | (rw [if_pos (by omega)]; go_simp; rfl) | skip
          · have l0 := (HZ.out _ hxw).1.1
            have l1 := (HZ.out _ hxw).1.2.1
            have l2 := (HZ.out _ hxw).1.2.2
            have f0 := (HZ.out _ hxw).2.1
            have f1 := (HZ.out _ hxw).2.2.1
            have f2 := (HZ.out _ hxw).2.2.2
            clear hj
            go_simp
            try go_bits
            first | rfl | (rw [if_pos (by omega), if_pos (by omega)]; go_simp; rfl) | (rw [if_pos (by omega)]; go_simp; rfl) | skip
          · have l0 := (HZ.out _ hxw).1.1
            have l1 := (HZ.out _ hxw).1.2.1
            have l2 := (HZ.out _ hxw).1.2.2
            have f0 := (HZ.out _ hxw).2.1
            have f1 := (HZ.out _ hxw).2.2.1
            have f2 := (HZ.out _ hxw).2.2.2
            clear hj
            go_simp
            try go_bits
            first | rfl | (rw [if_pos (by omega), if_pos (by omega)]; go_simp; rfl) | (rw [if_pos (by omega)]; go_simp; rfl) | skip
          · have l0 := (HZ.out _ hxw).1.1
            have l1 := (HZ.out _ hxw).1.2.1
            have l2 := (HZ.out _ hxw).1.2.2
            have f0 := (HZ.out _ hxw).2.1
            have f1 := (HZ.out _ hxw).2.2.1
            have f2 := (HZ.out _ hxw).2.2.2
            clear hj
            go_simp
            try go_bits
            first | rfl | (rw [if_pos (by omega), if_pos (by omega)]; go_simp; rfl) | (rw [if_pos (by omega)]; go_simp; rfl) | skip
          · have l0 := (HZ.out _ hxw).1.1
            have l1 := (HZ.out _ hxw).1.2.1
            have l2 := (HZ.out _ hxw).1.2.2
            have f0 := (HZ.out _ hxw).2.1
            have f1 := (HZ.out _ hxw).2.2.1
            have f2 := (HZ.out _ hxw).2.2.2
            clear hj
            go_simp
            try go_bits
            first | rfl | (rw [if_pos (by omega), if_pos (by omega)]; go_simp; rfl) | (rw [if_pos (by omega)]; go_simp; rfl) | skip
          · have l0 := (HZ.out _ hxw).1.1
            have l1 := (HZ.out _ hxw).1.2.1
            have l2 := (HZ.out _ hxw).1.2.2
            have f0 := (HZ.out _ hxw).2.1
            have f1 := (HZ.out _ hxw).2.2.1
            have f2 := (HZ.out _ hxw).2.2.2
            clear hj
            go_simp
            try go_bits
            first | rfl | (rw [if_pos (by omega), if_pos (by omega)]; go_simp; rfl) | (rw [if_pos (by omega)]; go_simp; rfl) | skip
          · have l0 := (HZ.out _ hxw).1.1
            have l1 := (HZ.out _ hxw).1.2.1
            have l2 := (HZ.out _ hxw).1.2.2
            have f0 := (HZ.out _ hxw).2.1
            have f1 := (HZ.out _ hxw).2.2.1
            have f2 := (HZ.out _ hxw).2.2.2
            clear hj
            go_simp
            try go_bits
            first | rfl | (rw [if_pos (by omega), if_pos (by omega)]; go_simp; rfl) | (rw [if_pos (by omega)]; go_simp; rfl) | skip
          · have l0 := (HZ.out _ hxw).1.1
            have l1 := (HZ.out _ hxw).1.2.1
            have l2 := (HZ.out _ hxw).1.2.2
            have f0 := (HZ.out _ hxw).2.1
            have f1 := (HZ.out _ hxw).2.2.1
            have f2 := (HZ.out _ hxw).2.2.2
            clear hj
            go_simp
            try go_bits
            first | rfl | (rw [if_pos (by omega), if_pos (by omega)]; go_simp; rfl) | (rw [if_pos (by omega)]; go_simp; rfl) | skip
          · have l0 := (HZ.out _ hxw).1.1
            have l1 := (HZ.out _ hxw).1.2.1
            have l2 := (HZ.out _ hxw).1.2.2
            have f0 := (HZ.out _ hxw).2.1
            have f1 := (HZ.out _ hxw).2.2.1
            have f2 := (HZ.out _ hxw).2.2.2
            clear hj
            go_simp
            try go_bits
            first | rfl | (rw [if_pos (by omega), if_pos (by omega)]; go_simp; rfl) | (rw [if_pos (by omega)]; go_simp; rfl) | skip
          · have l0 := (HZ.out _ hxw).1.1
            have l1 := (HZ.out _ hxw).1.2.1
            have l2 := (HZ.out _ hxw).1.2.2
            have f0 := (HZ.out _ hxw).2.1
            have f1 := (HZ.out _ hxw).2.2.1
            have f2 := (HZ.out _ hxw).2.2.2
            clear hj
            go_simp
            try go_bits
            first | rfl | (rw [if_pos (by omega), if_pos (by omega)]; go_simp; rfl) | (rw [if_pos (by omega)]; go_simp; rfl) | skip
          · have l0 := (HZ.out _ hxw).1.1
            have l1 := (HZ.out _ hxw).1.2.1
            have l2 := (HZ.out _ hxw).1.2.2
            have f0 := (HZ.out _ hxw).2.1
            have f1 := (HZ.out _ hxw).2.2.1
            have f2 := (HZ.out _ hxw).2.2.2
            clear hj
            go_simp
            try go_bits
            first | rfl | (rw [if_pos (by omega), if_pos (by omega)]; go_simp; rfl) | (rw [if_pos (by omega)]; go_simp; rfl) | skip
          · have l0 := (HZ.out _ hxw).1.1
            have l1 := (HZ.out _ hxw).1.2.1
            have l2 := (HZ.out _ hxw).1.2.2
            have f0 := (HZ.out _ hxw).2.1
            have f1 := (HZ.out _ hxw).2.2.1
            have f2 := (HZ.out _ hxw).2.2.2
            clear hj
            go_simp
            try go_bits
            first | rfl | (rw [if_pos (by omega), if_pos (by omega)]; go_simp; rfl) | (rw [if_pos (by omega)]; go_simp; rfl) | skip
          · have l0 := (HZ.out _ hxw).1.1
            have l1 := (HZ.out _ hxw).1.2.1
            have l2 := (HZ.out _ hxw).1.2.2
            have f0 := (HZ.out _ hxw).2.1
            have f1 := (HZ.out _ hxw).2.2.1
            have f2 := (HZ.out _ hxw).2.2.2
            clear hj
            go_simp
            try go_bits
            first | rfl | (rw [if_pos (by omega), if_pos (by omega)]; go_simp; rfl) | (rw [if_pos (by omega)]; go_simp; rfl) | skip
          · have l0 := (HZ.out _ hxw).1.1
            have l1 := (HZ.out _ hxw).1.2.1
            have l2 := (HZ.out _ hxw).1.2.2
            have f0 := (HZ.out _ hxw).2.1
            have f1 := (HZ.out _ hxw).2.2.1
            have f2 := (HZ.out _ hxw).2.2.2
            clear hj
            go_simp
            try go_bits
            first | rfl | (rw [if_pos (by omega), if_pos (by omega)]; go_simp; rfl) | (rw [if_pos (by omega)]; go_simp; rfl) | skip
          · have l0 := (HZ.out _ hxw).1.1
            have l1 := (HZ.out _ hxw).1.2.1
            have l2 := (HZ.out _ hxw).1.2.2
            have f0 := (HZ.out _ hxw).2.1
            have f1 := (HZ.out _ hxw).2.2.1
            have f2 := (HZ.out _ hxw).2.2.2
            clear hj
            go_simp
            try go_bits
            first | rfl | (rw [if_pos (by omega), if_pos (by omega)]; go_simp; rfl) | (rw [if_pos (by omega)]; go_simp; rfl) | skip
          · have l0 := (HZ.out _ hxw).1.1
            have l1 := (HZ.out _ hxw).1.2.1
            have l2 := (HZ.out _ hxw).1.2.2
            have f0 := (HZ.out _ hxw).2.1
            have f1 := (HZ.out _ hxw).2.2.1
            have f2 := (HZ.out _ hxw).2.2.2
            clear hj
            go_simp
            try go_bits
            first | rfl | (rw [if_pos (by omega), if_pos (by omega)]; go_simp; rfl) | (rw [if_pos (by omega)]; go_simp; rfl) | skip
          · have l0 := (HZ.out _ hxw).1.1
            have l1 := (HZ.out _ hxw).1.2.1
            have l2 := (HZ.out _ hxw).1.2.2
            have f0 := (HZ.out _ hxw).2.1
            have f1 := (HZ.out _ hxw).2.2.1
            have f2 := (HZ.out _ hxw).2.2.2
            clear hj
            go_simp
            try go_bits
            first | rfl | (rw [if_pos (by omega), if_pos (by omega)]; go_simp; rfl) | (rw [if_pos (by omega)]; go_simp; rfl) | skip
          · have l0 := (HZ.out _ hxw).1.1
            have l1 := (HZ.out _ hxw).1.2.1
            have l2 := (HZ.out _ hxw).1.2.2
            have f0 := (HZ.out _ hxw).2.1
            have f1 := (HZ.out _ hxw).2.2.1
            have f2 := (HZ.out _ hxw).2.2.2
            clear hj
            go_simp
            try go_bits
            first | rfl | (rw [if_pos (by omega), if_pos (by omega)]; go_simp; rfl) | (rw [if_pos (by omega)]; go_simp; rfl) | skip
          · have l0 := (HZ.out _ hxw).1.1
            have l1 := (HZ.out _ hxw).1.2.1
            have l2 := (HZ.out _ hxw).1.2.2
            have f0 := (HZ.out _ hxw).2.1
            have f1 := (HZ.out _ hxw).2.2.1
            have f2 := (HZ.out _ hxw).2.2.2
            clear hj
            go_simp
            try go_bits
            first | rfl | (rw [if_pos (by omega), if_pos (by omega)]; go_simp; rfl) | (rw [if_pos (by omega)]; go_simp; rfl) | skip
          · have l0 := (HZ.out _ hxw).1.1
            have l1 := (HZ.out _ hxw).1.2.1
            have l2 := (HZ.out _ hxw).1.2.2
            have f0 := (HZ.out _ hxw).2.1
            have f1 := (HZ.out _ hxw).2.2.1
            have f2 := (HZ.out _ hxw).2.2.2
            clear hj
            go_simp
            try go_bits
            first | rfl | (rw [if_pos (by omega), if_pos (by omega)]; go_simp; rfl) | (rw [if_pos (by omega)]; go_simp; rfl) | skip
          · have l0 := (HZ.out _ hxw).1.1
            have l1 := (HZ.out _ hxw).1.2.1
            have l2 := (HZ.out _ hxw).1.2.2
            have f0 := (HZ.out _ hxw).2.1
            have f1 := (HZ.out _ hxw).2.2.1
            have f2 := (HZ.out _ hxw).2.2.2
            clear hj
            go_simp
            try go_bits
            first | rfl | (rw [if_pos (by omega), if_pos (by omega)]; go_simp; rfl) | (rw [if_pos (by omega)]; go_simp; rfl) | skip
          · have l0 := (HZ.out _ hxw).1.1
            have l1 := (HZ.out _ hxw).1.2.1
            have l2 := (HZ.out _ hxw).1.2.2
            have f0 := (HZ.out _ hxw).2.1
            have f1 := (HZ.out _ hxw).2.2.1
            have f2 := (HZ.out _ hxw).2.2.2
            clear hj
            go_simp
            try go_bits
            first | rfl | (rw [if_pos (by omega), if_pos (by omega)]; go_simp; rfl) | (rw [if_pos (by omega)]; go_simp; rfl) | skip
          · have l0 := (HZ.out _ hxw).1.1
            have l1 := (HZ.out _ hxw).1.2.1
            have l2 := (HZ.out _ hxw).1.2.2
            have f0 := (HZ.out _ hxw).2.1
            have f1 := (HZ.out _ hxw).2.2.1
            have f2 := (HZ.out _ hxw).2.2.2
            clear hj
            go_simp
            try go_bits
            first | rfl | (rw [if_pos (by omega), if_pos (by omega)]; go_simp; rfl) | (rw [if_pos (by omega)]; go_simp; rfl) | skip
          · have l0 := (HZ.out _ hxw).1.1
            have l1 := (HZ.out _ hxw).1.2.1
            have l2 := (HZ.out _ hxw).1.2.2
            have f0 := (HZ.out _ hxw).2.1
            have f1 := (HZ.out _ hxw).2.2.1
            have f2 := (HZ.out _ hxw).2.2.2
            clear hj
            go_simp
            try go_bits
            first | rfl | (rw [if_pos (by omega), if_pos (by omega)]; go_simp; rfl) | (rw [if_pos (by omega)]; go_simp; rfl) | skip
          · have l0 := (HZ.out _ hxw).1.1
            have l1 := (HZ.out _ hxw).1.2.1
            have l2 := (HZ.out _ hxw).1.2.2
            have f0 := (HZ.out _ hxw).2.1
            have f1 := (HZ.out _ hxw).2.2.1
            have f2 := (HZ.out _ hxw).2.2.2
            clear hj
            go_simp
            try go_bits
            first | rfl | (rw [if_pos (by omega), if_pos (by omega)]; go_simp; rfl) | (rw [if_pos (by omega)]; go_simp; rfl) | skip
          · have l0 := (HZ.out _ hxw).1.1
            have l1 := (HZ.out _ hxw).1.2.1
            have l2 := (HZ.out _ hxw).1.2.2
            have f0 := (HZ.out _ hxw).2.1
            have f1 := (HZ.out _ hxw).2.2.1
            have f2 := (HZ.out _ hxw).2.2.2
            clear hj
            go_simp
            try go_bits
            first | rfl | (rw [if_pos (by omega), if_pos (by omega)]; go_simp; rfl) | (rw [if_pos (by omega)]; go_simp; rfl) | skip
          · have l0 := (HZ.out _ hxw).1.1
            have l1 := (HZ.out _ hxw).1.2.1
            have l2 := (HZ.out _ hxw).1.2.2
            have f0 := (HZ.out _ hxw).2.1
            have f1 := (HZ.out _ hxw).2.2.1
            have f2 := (HZ.out _ hxw).2.2.2
            clear hj
            go_simp
            try go_bits
            first | rfl | (rw [if_pos (by omega), if_pos (by omega)]; go_simp; rfl) | (rw [if_pos (by omega)]; go_simp; rfl) | skip
          · have l0 := (HZ.out _ hxw).1.1
            have l1 := (HZ.out _ hxw).1.2.1
            have l2 := (HZ.out _ hxw).1.2.2
            have f0 := (HZ.out _ hxw).2.1
            have f1 := (HZ.out _ hxw).2.2.1
            have f2 := (HZ.out _ hxw).2.2.2
            clear hj
            go_simp
            try go_bits
            first | rfl | (rw [if_pos (by omega), if_pos (by omega)]; go_simp; rfl) | (rw [if_pos (by omega)]; go_simp; rfl) | skip
          · have l0 := (HZ.out _ hxw).1.1
            have l1 := (HZ.out _ hxw).1.2.1
            have l2 := (HZ.out _ hxw).1.2.2
            have f0 := (HZ.out _ hxw).2.1
            have f1 := (HZ.out _ hxw).2.2.1
            have f2 := (HZ.out _ hxw).2.2.2
            clear hj
            go_simp
            try go_bits
            first | rfl | (rw [if_pos (by omega), if_pos (by omega)]; go_simp; rfl) | (rw [if_pos (by omega)]; go_simp; rfl) | skip
          · have l0 := (HZ.out _ hxw).1.1
            have l1 := (HZ.out _ hxw).1.2.1
            have l2 := (HZ.out _ hxw).1.2.2
            have f0 := (HZ.out _ hxw).2.1
            have f1 := (HZ.out _ hxw).2.2.1
            have f2 := (HZ.out _ hxw).2.2.2
            clear hj
            go_simp
            try go_bits
            first | rfl | (rw [if_pos (by omega), if_pos (by omega)]; go_simp; rfl) | (rw [if_pos (by omega)]; go_simp; rfl) | skip
          · have l0 := (HZ.out _ hxw).1.1
            have l1 := (HZ.out _ hxw).1.2.1
            have l2 := (HZ.out _ hxw).1.2.2
            have f0 := (HZ.out _ hxw).2.1
            have f1 := (HZ.out _ hxw).2.2.1
            have f2 := (HZ.out _ hxw).2.2.2
            clear hj
            go_simp
            try go_bits
            first | rfl | (rw [if_pos (by omega), if_pos (by omega)]; go_simp; rfl) | (rw [if_pos (by omega)]; go_simp; rfl) | skip
          · have l0 := (HZ.out _ hxw).1.1
            have l1 := (HZ.out _ hxw).1.2.1
            have l2 := (HZ.out _ hxw).1.2.2
            have f0 := (HZ.out _ hxw).2.1
            have f1 := (HZ.out _ hxw).2.2.1
            have f2 := (HZ.out _ hxw).2.2.2
            clear hj
            go_simp
            try go_bits
            first | rfl | (rw [if_pos (by omega), if_pos (by omega)]; go_simp; rfl) | (rw [if_pos (by omega)]; go_simp; rfl) | skip
          · have l0 := (HZ.out _ hxw).1.1
            have l1 := (HZ.out _ hxw).1.2.1
            have l2 := (HZ.out _ hxw).1.2.2
            have f0 := (HZ.out _ hxw).2.1
            have f1 := (HZ.out _ hxw).2.2.1
            have f2 := (HZ.out _ hxw).2.2.2
            clear hj
            go_simp
            try go_bits
            first | rfl | (rw [if_pos (by omega), if_pos (by omega)]; go_simp; rfl) | (rw [if_pos (by omega)]; go_simp; rfl) | skip
          · have l0 := (HZ.out _ hxw).1.1
            have l1 := (HZ.out _ hxw).1.2.1
            have l2 := (HZ.out _ hxw).1.2.2
            have f0 := (HZ.out _ hxw).2.1
            have f1 := (HZ.out _ hxw).2.2.1
            have f2 := (HZ.out _ hxw).2.2.2
            clear hj
            go_simp
            try go_bits
            first | rfl | (rw [if_pos (by omega), if_pos (by omega)]; go_simp; rfl) | (rw [if_pos (by omega)]; go_simp; rfl) | skip
          · have l0 := (HZ.out _ hxw).1.1
            have l1 := (HZ.out _ hxw).1.2.1
            have l2 := (HZ.out _ hxw).1.2.2
            have f0 := (HZ.out _ hxw).2.1
            have f1 := (HZ.out _ hxw).2.2.1
            have f2 := (HZ.out _ hxw).2.2.2
            clear hj
            go_simp
            try go_bits
            first | rfl | (rw [if_pos (by omega), if_pos (by omega)]; go_simp; rfl) | (rw [if_pos (by omega)]; go_simp; rfl) | skip
          · have l0 := (HZ.out _ hxw).1.1
            have l1 := (HZ.out _ hxw).1.2.1
            have l2 := (HZ.out _ hxw).1.2.2
            have f0 := (HZ.out _ hxw).2.1
            have f1 := (HZ.out _ hxw).2.2.1
            have f2 := (HZ.out _ hxw).2.2.2
            clear hj
            go_simp
            try go_bits
            first | rfl | (rw [if_pos (by omega), if_pos (by omega)]; go_simp; rfl) | (rw [if_pos (by omega)]; go_simp; rfl) | skip
          · have l0 := (HZ.out _ hxw).1.1
            have l1 := (HZ.out _ hxw).1.2.1
            have l2 := (HZ.out _ hxw).1.2.2
            have f0 := (HZ.out _ hxw).2.1
            have f1 := (HZ.out _ hxw).2.2.1
            have f2 := (HZ.out _ hxw).2.2.2
            clear hj
            go_simp
            try go_bits
            first | rfl | (rw [if_pos (by omega), if_pos (by omega)]; go_simp; rfl) | (rw [if_pos (by omega)]; go_simp; rfl) | skip
          · have l0 := (HZ.out _ hxw).1.1
            have l1 := (HZ.out _ hxw).1.2.1
            have l2 := (HZ.out _ hxw).1.2.2
            have f0 := (HZ.out _ hxw).2.1
            have f1 := (HZ.out _ hxw).2.2.1
            have f2 := (HZ.out _ hxw).2.2.2
            clear hj
            go_simp
            try go_bits
            first | rfl | (rw [if_pos (by omega), if_pos (by omega)]; go_simp; rfl) | (rw [if_pos (by omega)]; go_simp; rfl) | skip
          · have l0 := (HZ.out _ hxw).1.1
            have l1 := (HZ.out _ hxw).1.2.1
            have l2 := (HZ.out _ hxw).1.2.2
            have f0 := (HZ.out _ hxw).2.1
            have f1 := (HZ.out _ hxw).2.2.1
            have f2 := (HZ.out _ hxw).2.2.2
            clear hj
            go_simp
            try go_bits
            first | rfl | (rw [if_pos (by omega), if_pos (by omega)]; go_simp; rfl) | (rw [if_pos (by omega)]; go_simp; rfl) | skip
          · have l0 := (HZ.out _ hxw).1.1
            have l1 := (HZ.out _ hxw).1.2.1
            have l2 := (HZ.out _ hxw).1.2.2
            have f0 := (HZ.out _ hxw).2.1
            have f1 := (HZ.out _ hxw).2.2.1
            have f2 := (HZ.out _ hxw).2.2.2
            clear hj
            go_simp
            try go_bits
            first | rfl | (rw [if_pos (by omega), if_pos (by omega)]; go_simp; rfl) | (rw [if_pos (by omega)]; go_simp; rfl) | skip
          · have l0 := (HZ.out _ hxw).1.1
            have l1 := (HZ.out _ hxw).1.2.1
            have l2 := (HZ.out _ hxw).1.2.2
            have f0 := (HZ.out _ hxw).2.1
            have f1 := (HZ.out _ hxw).2.2.1
            have f2 := (HZ.out _ hxw).2.2.2
            clear hj
            go_simp
            try go_bits
            first | rfl | (rw [if_pos (by omega), if_pos (by omega)]; go_simp; rfl) | (rw [if_pos (by omega)]; go_simp; rfl) | skip
          · have l0 := (HZ.out _ hxw).1.1
            have l1 := (HZ.out _ hxw).1.2.1
            have l2 := (HZ.out _ hxw).1.2.2
            have f0 := (HZ.out _ hxw).2.1
            have f1 := (HZ.out _ hxw).2.2.1
            have f2 := (HZ.out _ hxw).2.2.2
            clear hj
            go_simp
            try go_bits
            first | rfl | (rw [if_pos (by omega), if_pos (by omega)]; go_simp; rfl) | (rw [if_pos (by omega)]; go_simp; rfl) | skip
          · have l0 := (HZ.out _ hxw).1.1
            have l1 := (HZ.out _ hxw).1.2.1
            have l2 := (HZ.out _ hxw).1.2.2
            have f0 := (HZ.out _ hxw).2.1
            have f1 := (HZ.out _ hxw).2.2.1
            have f2 := (HZ.out _ hxw).2.2.2
            clear hj
            go_simp
            try go_bits
            first | rfl | (rw [if_pos (by omega), if_pos (by omega)]; go_simp; rfl) | (rw [if_pos (by omega)]; go_simp; rfl) | skip
          · have l0 := (HZ.out _ hxw).1.1
            have l1 := (HZ.out _ hxw).1.2.1
            have l2 := (HZ.out _ hxw).1.2.2
            have f0 := (HZ.out _ hxw).2.1
            have f1 := (HZ.out _ hxw).2.2.1
            have f2 := (HZ.out _ hxw).2.2.2
            clear hj
            go_simp
            try go_bits
            first | rfl | (rw [if_pos (by omega), if_pos (by omega)]; go_simp; rfl) | (rw [if_pos (by omega)]; go_simp; rfl) | skip
          · have l0 := (HZ.out _ hxw).1.1
            have l1 := (HZ.out _ hxw).1.2.1
            have l2 := (HZ.out _ hxw).1.2.2
            have f0 := (HZ.out _ hxw).2.1
            have f1 := (HZ.out _ hxw).2.2.1
            have f2 := (HZ.out _ hxw).2.2.2
            clear hj
            go_simp
            try go_bits
            first | rfl | (rw [if_pos (by omega), if_pos (by omega)]; go_simp; rfl) | (rw [if_pos (by omega)]; go_simp; rfl) | skip
          · have l0 := (HZ.out _ hxw).1.1
            have l1 := (HZ.out _ hxw).1.2.1
            have l2 := (HZ.out _ hxw).1.2.2
            have f0 := (HZ.out _ hxw).2.1
            have f1 := (HZ.out _ hxw).2.2.1
            have f2 := (HZ.out _ hxw).2.2.2
            clear hj
            go_simp
            try go_bits
            first | rfl | (rw [if_pos (by omega), if_pos (by omega)]; go_simp; rfl) | (rw [if_pos (by omega)]; go_simp; rfl) | skip
        case' hx8_7_p =>
          intro vs w8 hx8 hk
          clear hk
          replace E := Ext.trans E hx8
          go_simp
          clear hx8
          go_wp2
          go_roundw
          case rel => exact ⟨1, by omega, by go_num, fun j hj => by
            have e : j = 0 := by omega
            subst e; exact HK.out, Ext.trans HP.out.2.2.1 E⟩
          case measure => simp [intOf]; omega
      · obtain ⟨j, hj⟩ : ∃ j, k = j + 1 := ⟨k - 1, by omega⟩
        have hkj : (k : Int) - 1 = (j : Int) := by omega
        have hjn : j < n := by omega
        have hk0' : 0 < k := by omega
        obtain ⟨_, _, x', y', z', e, hxyz', p0, p1, p2⟩ := (HM.out.1.ext HP.out.2.2.2).at j (by rw [← HM.out.2.1]; exact hjn)
        cases e
        have HQ := Lib.hid (show ∀ w', Ext (wr.alloc (.cells #[.int .i64 x, .int .i64 y, .int .i64 z] 36)) w' → w'.cell? ⟨b, o + j * 3, none⟩ = some (.int .i64 x') ∧ w'.cell? ⟨b, o + j * 3 + 1, none⟩ = some (.int .i64 y') ∧ w'.cell? ⟨b, o + j * 3 + 2, none⟩ = some (.int .i64 z') from
          fun w' hw => ⟨hw.cell_some (old_cell p0), hw.cell_some (old_cell p1), hw.cell_some (old_cell p2)⟩)
        have hsc : okAt L S ar k = decide (cmpA (x', y', z') (x, y, z) < 0) := by
          have h7 := HP.out.2.1
          rw [hj] at h7 ⊢
          exact okAt_succ hxyz' h7 HO.out
        obtain ⟨c, hcc⟩ : ∃ c, c = cmpA (x', y', z') (x, y, z) := ⟨_, rfl⟩
        have hca := fun w => compareArcs_any x' y' z' x y z w
        rw [← hcc] at hsc hca
        have HK := Lib.hid (And.intro hsc (And.intro hca hj))
        clear hsc hca hcc hj p0 p1 p2 hxyz'
        by_cases hc0 : c < 0
        · skip
          go_wp2
          have E := Ext.alloc wr (.cells #[.int .i64 x, .int .i64 y, .int .i64 z] 36)
          refine wp_region_inv (by kernel_rfl) (.known ?hx8_8_v0 :: .known ?hx8_8_v1 :: .known ?hx8_8_v2 :: .known ?hx8_8_v3 :: .known ?hx8_8_v4 :: .known ?hx8_8_v5 :: .known ?hx8_8_v6 :: .known ?hx8_8_v7 :: .known ?hx8_8_v8 :: .known ?hx8_8_v9 :: .known ?hx8_8_v10 :: .known ?hx8_8_v11 :: .known ?hx8_8_v12 :: .known ?hx8_8_v13 :: .known ?hx8_8_v14 :: .known ?hx8_8_v15 :: .known ?hx8_8_v16 :: .known ?hx8_8_v17 :: .known ?hx8_8_v18 :: .known ?hx8_8_v19 :: .known ?hx8_8_v20 :: .known ?hx8_8_v21 :: .known ?hx8_8_v22 :: .known ?hx8_8_v23 :: .known ?hx8_8_v24 :: .known ?hx8_8_v25 :: .known ?hx8_8_v26 :: .known ?hx8_8_v27 :: .known ?hx8_8_v28 :: .known ?hx8_8_v29 :: .known ?hx8_8_v30 :: .known ?hx8_8_v31 :: .known ?hx8_8_v32 :: .known ?hx8_8_v33 :: .known ?hx8_8_v34 :: .known ?hx8_8_v35 :: .known ?hx8_8_v36 :: .known ?hx8_8_v37 :: .known ?hx8_8_v38 :: .known ?hx8_8_v39 :: .known ?hx8_8_v40 :: .known ?hx8_8_v41 :: .known ?hx8_8_v42 :: .known ?hx8_8_v43 :: .known ?hx8_8_v44 :: .known (.int .i64 c) :: .known ?hx8_8_v46 :: .known ?hx8_8_v47 :: .known ?hx8_8_v48 :: []) rfl (by kernel_rfl) ?hx8_8_s ?hx8_8_p
          case hx8_8_s =>
            intro vs
            refine ⟨fun w' hxw hj => ?_, fun w' hxw hj => ?_, fun w' hxw hj => ?_, fun w' hxw hj => ?_, fun w' hxw hj => ?_, fun w' hxw hj => ?_, fun w' hxw hj => ?_, fun w' hxw hj => ?_, fun w' hxw hj => ?_, fun w' hxw hj => ?_, fun w' hxw hj => ?_, fun w' hxw hj => ?_, fun w' hxw hj => ?_, fun w' hxw hj => ?_, fun w' hxw hj => ?_, fun w' hxw hj => ?_, fun w' hxw hj => ?_, fun w' hxw hj => ?_, fun w' hxw hj => ?_, fun w' hxw hj => ?_, fun w' hxw hj => ?_, fun w' hxw hj => ?_, fun w' hxw hj => ?_, fun w' hxw hj => ?_, fun w' hxw hj => ?_, fun w' hxw hj => ?_, fun w' hxw hj => ?_, fun w' hxw hj => ?_, fun w' hxw hj => ?_, fun w' hxw hj => ?_, fun w' hxw hj => ?_, fun w' hxw hj => ?_, fun w' hxw hj => ?_, fun w' hxw hj => ?_, fun w' hxw hj => ?_, fun w' hxw hj => ?_, fun w' hxw hj => ?_, fun w' hxw hj => ?_, fun w' hxw hj => ?_, fun w' hxw hj => ?_, fun w' hxw hj => ?_, fun w' hxw hj => ?_, fun w' hxw hj => ?_, fun w' hxw hj => ?_, fun w' hxw hj => ?_, fun w' hxw hj => ?_, fun w' hxw hj => ?_, fun w' hxw hj => ?_, fun w' hxw hj => ?_, trivial⟩
            · have l0 := (HZ.out _ hxw).1.1
              have l1 := (HZ.out _ hxw).1.2.1
              have l2 := (HZ.out _ hxw).1.2.2
              have f0 := (HZ.out _ hxw).2.1
              have f1 := (HZ.out _ hxw).2.2.1
              have f2 := (HZ.out _ hxw).2.2.2
              have p0 := (HQ.out _ hxw).1
              have p1 := (HQ.out _ hxw).2.1
              have p2 := (HQ.out _ hxw).2.2
              clear hj
              go_simp
              try go_bits
              first | rfl | (rw [if_pos (by omega), if_pos (by omega)]; go_simp; rfl) | (rw [if_pos (by omega)]; go_simp; rfl) | skip
            · have l0 := (HZ.out _ hxw).1.1
              have l1 := (HZ.out _ hxw).1.2.1
              have l2 := (HZ.out _ hxw).1.2.2
              have f0 := (HZ.out _ hxw).2.1
              have f1 := (HZ.out _ hxw).2.2.1
              have f2 := (HZ.out _ hxw).2.2.2
              have p0 := (HQ.out _ hxw).1
              have p1 := (HQ.out _ hxw).2.1
              have p2 := (HQ.out _ hxw).2.2
              clear hj
              go_simp
              try go_bits
              first | rfl | (rw [if_pos (by omega), if_pos (by omega)]; go_simp; rfl) | (rw [if_pos (by omega)]; go_simp; rfl) | skip
            · have l0 := (HZ.out _ hxw).1.1
              have l1 := (HZ.out _ hxw).1.2.1
              have l2 := (HZ.out _ hxw).1.2.2
              have f0 := (HZ.out _ hxw).2.1
              have f1 := (HZ.out _ hxw).2.2.1
              have f2 := (HZ.out _ hxw).2.2.2
              have p0 := (HQ.out _ hxw).1
              have p1 := (HQ.out _ hxw).2.1
              have p2 := (HQ.out _ hxw).2.2
              clear hj
              go_simp
              try go_bits
              first | rfl | (rw [if_pos (by omega), if_pos (by omega)]; go_simp; rfl) | (rw [if_pos (by omega)]; go_simp; rfl) | skip
            · have l0 := (HZ.out _ hxw).1.1
              have l1 := (HZ.out _ hxw).1.2.1
              have l2 := (HZ.out _ hxw).1.2.2
              have f0 := (HZ.out _ hxw).2.1
              have f1 := (HZ.out _ hxw).2.2.1
              have f2 := (HZ.out _ hxw).2.2.2
              have p0 := (HQ.out _ hxw).1
              have p1 := (HQ.out _ hxw).2.1
              have p2 := (HQ.out _ hxw).2.2
              clear hj
              go_simp
              try go_bits
              first | rfl | (rw [if_pos (by omega), if_pos (by omega)]; go_simp; rfl) | (rw [if_pos (by omega)]; go_simp; rfl) | skip
            · have l0 := (HZ.out _ hxw).1.1
              have l1 := (HZ.out _ hxw).1.2.1
              have l2 := (HZ.out _ hxw).1.2.2
              have f0 := (HZ.out _ hxw).2.1
              have f1 := (HZ.out _ hxw).2.2.1
              have f2 := (HZ.out _ hxw).2.2.2
              have p0 := (HQ.out _ hxw).1
              have p1 := (HQ.out _ hxw).2.1
              have p2 := (HQ.out _ hxw).2.2
              clear hj
              go_simp
              try go_bits
              first | rfl | (rw [if_pos (by omega), if_pos (by omega)]; go_simp; rfl) | (rw [if_pos (by omega)]; go_simp; rfl) | skip
            · have l0 := (HZ.out _ hxw).1.1
              have l1 := (HZ.out _ hxw).1.2.1
              have l2 := (HZ.out _ hxw).1.2.2
              have f0 := (HZ.out _ hxw).2.1
              have f1 := (HZ.out _ hxw).2.2.1
              have f2 := (HZ.out _ hxw).2.2.2
              have p0 := (HQ.out _ hxw).1
              have p1 := (HQ.out _ hxw).2.1
              have p2 := (HQ.out _ hxw).2.2
              clear hj
              go_simp
              try go_bits
              first | rfl | (rw [if_pos (by omega), if_pos (by omega)]; go_simp; rfl) | (rw [if_pos (by omega)]; go_simp; rfl) | skip
            · have l0 := (HZ.out _ hxw).1.1
              have l1 := (HZ.out _ hxw).1.2.1
              have l2 := (HZ.out _ hxw).1.2.2
              have f0 := (HZ.out _ hxw).2.1
              have f1 := (HZ.out _ hxw).2.2.1
              have f2 := (HZ.out _ hxw).2.2.2
              have p0 := (HQ.out _ hxw).1
              have p1 := (HQ.out _ hxw).2.1
              have p2 := (HQ.out _ hxw).2.2
              clear hj
              go_simp
              try go_bits
              first | rfl | (rw [if_pos (by omega), if_pos (by omega)]; go_simp; rfl) | (rw [if_pos (by omega)]; go_simp; rfl) | skip
            · have l0 := (HZ.out _ hxw).1.1
              have l1 := (HZ.out _ hxw).1.2.1
              have l2 := (HZ.out _ hxw).1.2.2
              have f0 := (HZ.out _ hxw).2.1
              have f1 := (HZ.out _ hxw).2.2.1
              have f2 := (HZ.out _ hxw).2.2.2
              have p0 := (HQ.out _ hxw).1
              have p1 := (HQ.out _ hxw).2.1
              have p2 := (HQ.out _ hxw).2.2
              clear hj
              go_simp
              try go_bits
              first | rfl | (rw [if_pos (by omega), if_pos (by omega)]; go_simp; rfl) | (rw [if_pos (by omega)]; go_simp; rfl) | skip
            · have l0 := (HZ.out _ hxw).1.1
              have l1 := (HZ.out _ hxw).1.2.1
              have l2 := (HZ.out _ hxw).1.2.2
              have f0 := (HZ.out _ hxw).2.1
              have f1 := (HZ.out _ hxw).2.2.1
              have f2 := (HZ.out _ hxw).2.2.2
              have p0 := (HQ.out _ hxw).1
              have p1 := (HQ.out _ hxw).2.1
              have p2 := (HQ.out _ hxw).2.2
              clear hj
              go_simp
              try go_bits
              first | rfl | (rw [if_pos (by omega), if_pos (by omega)]; go_simp; rfl) | (rw [if_pos (by omega)]; go_simp; rfl) | skip
            · have l0 := (HZ.out _ hxw).1.1
              have l1 := (HZ.out _ hxw).1.2.1
              have l2 := (HZ.out _ hxw).1.2.2
              have f0 := (HZ.out _ hxw).2.1
              have f1 := (HZ.out _ hxw).2.2.1
              have f2 := (HZ.out _ hxw).2.2.2
              have p0 := (HQ.out _ hxw).1
              have p1 := (HQ.out _ hxw).2.1
              have p2 := (HQ.out _ hxw).2.2
              clear hj
              go_simp
              try go_bits
              first | rfl | (rw [if_pos (by omega), if_pos (by omega)]; go_simp; rfl) | (rw [if_pos (by omega)]; go_simp; rfl) | skip
            · have l0 := (HZ.out _ hxw).1.1
              have l1 := (HZ.out _ hxw).1.2.1
              have l2 := (HZ.out _ hxw).1.2.2
              have f0 := (HZ.out _ hxw).2.1
              have f1 := (HZ.out _ hxw).2.2.1
              have f2 := (HZ.out _ hxw).2.2.2
              have p0 := (HQ.out _ hxw).1
              have p1 := (HQ.out _ hxw).2.1
              have p2 := (HQ.out _ hxw).2.2
              clear hj
              go_simp
              try go_bits
              first | rfl | (rw [if_pos (by omega), if_pos (by omega)]; go_simp; rfl) | (rw [if_pos (by omega)]; go_simp; rfl) | skip
            · have l0 := (HZ.out _ hxw).1.1
              have l1 := (HZ.out _ hxw).1.2.1
              have l2 := (HZ.out _ hxw).1.2.2
              have f0 := (HZ.out _ hxw).2.1
              have f1 := (HZ.out _ hxw).2.2.1
              have f2 := (HZ.out _ hxw).2.2.2
              have p0 := (HQ.out _ hxw).1
              have p1 := (HQ.out _ hxw).2.1
              have p2 := (HQ.out _ hxw).2.2
              clear hj
              go_simp
              try go_bits
              first | rfl | (rw [if_pos (by omega), if_pos (by omega)]; go_simp; rfl) | (rw [if_pos (by omega)]; go_simp; rfl) | skip
            · have l0 := (HZ.out _ hxw).1.1
              have l1 := (HZ.out _ hxw).1.2.1
              have l2 := (HZ.out _ hxw).1.2.2
              have f0 := (HZ.out _ hxw).2.1
              have f1 := (HZ.out _ hxw).2.2.1
              have f2 := (HZ.out _ hxw).2.2.2
              have p0 := (HQ.out _ hxw).1
              have p1 := (HQ.out _ hxw).2.1
              have p2 := (HQ.out _ hxw).2.2
              clear hj
              go_simp
              try go_bits
              first | rfl | (rw [if_pos (by omega), if_pos (by omega)]; go_simp; rfl) | (rw [if_pos (by omega)]; go_simp; rfl) | skip
            · have l0 := (HZ.out _ hxw).1.1
              have l1 := (HZ.out _ hxw).1.2.1
              have l2 := (HZ.out _ hxw).1.2.2
              have f0 := (HZ.out _ hxw).2.1
              have f1 := (HZ.out _ hxw).2.2.1
              have f2 := (HZ.out _ hxw).2.2.2
              have p0 := (HQ.out _ hxw).1
              have p1 := (HQ.out _ hxw).2.1
              have p2 := (HQ.out _ hxw).2.2
              clear hj
              go_simp
              try go_bits
              first | rfl | (rw [if_pos (by omega), if_pos (by omega)]; go_simp; rfl) | (rw [if_pos (by omega)]; go_simp; rfl) | skip
            · have l0 := (HZ.out _ hxw).1.1
              have l1 := (HZ.out _ hxw).1.2.1
              have l2 := (HZ.out _ hxw).1.2.2
              have f0 := (HZ.out _ hxw).2.1
              have f1 := (HZ.out _ hxw).2.2.1
              have f2 := (HZ.out _ hxw).2.2.2
              have p0 := (HQ.out _ hxw).1
              have p1 := (HQ.out _ hxw).2.1
              have p2 := (HQ.out _ hxw).2.2
              clear hj
              go_simp
              try go_bits
              first | rfl | (rw [if_pos (by omega), if_pos (by omega)]; go_simp; rfl) | (rw [if_pos (by omega)]; go_simp; rfl) | skip
            · have l0 := (HZ.out _ hxw).1.1
              have l1 := (HZ.out _ hxw).1.2.1
              have l2 := (HZ.out _ hxw).1.2.2
              have f0 := (HZ.out _ hxw).2.1
              have f1 := (HZ.out _ hxw).2.2.1
              have f2 := (HZ.out _ hxw).2.2.2
              have p0 := (HQ.out _ hxw).1
              have p1 := (HQ.out _ hxw).2.1
              have p2 := (HQ.out _ hxw).2.2
              clear hj
              go_simp
              try go_bits
              first | rfl | (rw [if_pos (by omega), if_pos (by omega)]; go_simp; rfl) | (rw [if_pos (by omega)]; go_simp; rfl) | skip
            · have l0 := (HZ.out _ hxw).1.1
              have l1 := (HZ.out _ hxw).1.2.1
              have l2 := (HZ.out _ hxw).1.2.2
              have f0 := (HZ.out _ hxw).2.1
              have f1 := (HZ.out _ hxw).2.2.1
              have f2 := (HZ.out _ hxw).2.2.2
              have p0 := (HQ.out _ hxw).1
              have p1 := (HQ.out _ hxw).2.1
              have p2 := (HQ.out _ hxw).2.2
              clear hj
              go_simp
              try go_bits
              first | rfl | (rw [if_pos (by omega), if_pos (by omega)]; go_simp; rfl) | (rw [if_pos (by omega)]; go_simp; rfl) | skip
            · have l0 := (HZ.out _ hxw).1.1
              have l1 := (HZ.out _ hxw).1.2.1
              have l2 := (HZ.out _ hxw).1.2.2
              have f0 := (HZ.out _ hxw).2.1
              have f1 := (HZ.out _ hxw).2.2.1
              have f2 := (HZ.out _ hxw).2.2.2
              have p0 := (HQ.out _ hxw).1
              have p1 := (HQ.out _ hxw).2.1
              have p2 := (HQ.out _ hxw).2.2
              clear hj
              go_simp
              try go_bits
              first | rfl | (rw [if_pos (by omega), if_pos (by omega)]; go_simp; rfl) | (rw [if_pos (by omega)]; go_simp; rfl) | skip
            · have l0 := (HZ.out _ hxw).1.1
              have l1 := (HZ.out _ hxw).1.2.1
              have l2 := (HZ.out _ hxw).1.2.2
              have f0 := (HZ.out _ hxw).2.1
              have f1 := (HZ.out _ hxw).2.2.1
              have f2 := (HZ.out _ hxw).2.2.2
              have p0 := (HQ.out _ hxw).1
              have p1 := (HQ.out _ hxw).2.1
              have p2 := (HQ.out _ hxw).2.2
              clear hj
              go_simp
              try go_bits
              first | rfl | (rw [if_pos (by omega), if_pos (by omega)]; go_simp; rfl) | (rw [if_pos (by omega)]; go_simp; rfl) | skip
            · have l0 := (HZ.out _ hxw).1.1
              have l1 := (HZ.out _ hxw).1.2.1
              have l2 := (HZ.out _ hxw).1.2.2
              have f0 := (HZ.out _ hxw).2.1
              have f1 := (HZ.out _ hxw).2.2.1
              have f2 := (HZ.out _ hxw).2.2.2
              have p0 := (HQ.out _ hxw).1
              have p1 := (HQ.out _ hxw).2.1
              have p2 := (HQ.out _ hxw).2.2
              clear hj
              go_simp
              try go_bits
              first | rfl | (rw [if_pos (by omega), if_pos (by omega)]; go_simp; rfl) | (rw [if_pos (by omega)]; go_simp; rfl) | skip
            · have l0 := (HZ.out _ hxw).1.1
              have l1 := (HZ.out _ hxw).1.2.1
              have l2 := (HZ.out _ hxw).1.2.2
              have f0 := (HZ.out _ hxw).2.1
              have f1 := (HZ.out _ hxw).2.2.1
              have f2 := (HZ.out _ hxw).2.2.2
              have p0 := (HQ.out _ hxw).1
              have p1 := (HQ.out _ hxw).2.1
              have p2 := (HQ.out _ hxw).2.2
              clear hj
              go_simp
              try go_bits
              first | rfl | (rw [if_pos (by omega), if_pos (by omega)]; go_simp; rfl) | (rw [if_pos (by omega)]; go_simp; rfl) | skip
            · have l0 := (HZ.out _ hxw).1.1
              have l1 := (HZ.out _ hxw).1.2.1
              have l2 := (HZ.out _ hxw).1.2.2
              have f0 := (HZ.out _ hxw).2.1
              have f1 := (HZ.out _ hxw).2.2.1
              have f2 := (HZ.out _ hxw).2.2.2
              have p0 := (HQ.out _ hxw).1
              have p1 := (HQ.out _ hxw).2.1
              have p2 := (HQ.out _ hxw).2.2
              clear hj
              go_simp
              try go_bits
              first | rfl | (rw [if_pos (by omega), if_pos (by omega)]; go_simp; rfl) | (rw [if_pos (by omega)]; go_simp; rfl) | skip
            · have l0 := (HZ.out _ hxw).1.1
              have l1 := (HZ.out _ hxw).1.2.1
              have l2 := (HZ.out _ hxw).1.2.2
              have f0 := (HZ.out _ hxw).2.1
              have f1 := (HZ.out _ hxw).2.2.1
              have f2 := (HZ.out _ hxw).2.2.2
              have p0 := (HQ.out _ hxw).1
              have p1 := (HQ.out _ hxw).2.1
              have p2 := (HQ.out _ hxw).2.2
              clear hj
              go_simp
              try go_bits
              first | rfl | (rw [if_pos (by omega), if_pos (by omega)]; go_simp; rfl) | (rw [if_pos (by omega)]; go_simp; rfl) | skip
            · have l0 := (HZ.out _ hxw).1.1
              have l1 := (HZ.out _ hxw).1.2.1
              have l2 := (HZ.out _ hxw).1.2.2
              have f0 := (HZ.out _ hxw).2.1
              have f1 := (HZ.out _ hxw).2.2.1
              have f2 := (HZ.out _ hxw).2.2.2
              have p0 := (HQ.out _ hxw).1
              have p1 := (HQ.out _ hxw).2.1
              have p2 := (HQ.out _ hxw).2.2
              clear hj
              go_simp
              try go_bits
              first | rfl | (rw [if_pos (by omega), if_pos (by omega)]; go_simp; rfl) | (rw [if_pos (by omega)]; go_simp; rfl) | skip
            · have l0 := (HZ.out _ hxw).1.1
              have l1 := (HZ.out _ hxw).1.2.1
              have l2 := (HZ.out _ hxw).1.2.2
              have f0 := (HZ.out _ hxw).2.1
              have f1 := (HZ.out _ hxw).2.2.1
              have f2 := (HZ.out _ hxw).2.2.2
              have p0 := (HQ.out _ hxw).1
              have p1 := (HQ.out _ hxw).2.1
              have p2 := (HQ.out _ hxw).2.2
              clear hj
              go_simp
              try go_bits
              first | rfl | (rw [if_pos (by omega), if_pos (by omega)]; go_simp; rfl) | (rw [if_pos (by omega)]; go_simp; rfl) | skip
            · have l0 := (HZ.out _ hxw).1.1
              have l1 := (HZ.out _ hxw).1.2.1
              have l2 := (HZ.out _ hxw).1.2.2
              have f0 := (HZ.out _ hxw).2.1
              have f1 := (HZ.out _ hxw).2.2.1
              have f2 := (HZ.out _ hxw).2.2.2
              have p0 := (HQ.out _ hxw).1
              have p1 := (HQ.out _ hxw).2.1
              have p2 := (HQ.out _ hxw).2.2
              clear hj
              go_simp
              try go_bits
              first | rfl | (rw [if_pos (by omega), if_pos (by omega)]; go_simp; rfl) | (rw [if_pos (by omega)]; go_simp; rfl) | skip
            · have l0 := (HZ.out _ hxw).1.1
              have l1 := (HZ.out _ hxw).1.2.1
              have l2 := (HZ.out _ hxw).1.2.2
              have f0 := (HZ.out _ hxw).2.1
              have f1 := (HZ.out _ hxw).2.2.1
              have f2 := (HZ.out _ hxw).2.2.2
              have p0 := (HQ.out _ hxw).1
              have p1 := (HQ.out _ hxw).2.1
              have p2 := (HQ.out _ hxw).2.2
              clear hj
              go_simp
              try go_bits
              first | rfl | (rw [if_pos (by omega), if_pos (by omega)]; go_simp; rfl) | (rw [if_pos (by omega)]; go_simp; rfl) | skip
            · have l0 := (HZ.out _ hxw).1.1
              have l1 := (HZ.out _ hxw).1.2.1
              have l2 := (HZ.out _ hxw).1.2.2
              have f0 := (HZ.out _ hxw).2.1
              have f1 := (HZ.out _ hxw).2.2.1
              have f2 := (HZ.out _ hxw).2.2.2
              have p0 := (HQ.out _ hxw).1
              have p1 := (HQ.out _ hxw).2.1
              have p2 := (HQ.out _ hxw).2.2
              clear hj
              go_simp
              try go_bits
              first | rfl | (rw [if_pos (by omega), if_pos (by omega)]; go_simp; rfl) | (rw [if_pos (by omega)]; go_simp; rfl) | skip
            · have l0 := (HZ.out _ hxw).1.1
              have l1 := (HZ.out _ hxw).1.2.1
              have l2 := (HZ.out _ hxw).1.2.2
              have f0 := (HZ.out _ hxw).2.1
              have f1 := (HZ.out _ hxw).2.2.1
              have f2 := (HZ.out _ hxw).2.2.2
              have p0 := (HQ.out _ hxw).1
              have p1 := (HQ.out _ hxw).2.1
              have p2 := (HQ.out _ hxw).2.2
              clear hj
              go_simp
              try go_bits
              first | rfl | (rw [if_pos (by omega), if_pos (by omega)]; go_simp; rfl) | (rw [if_pos (by omega)]; go_simp; rfl) | skip
            · have l0 := (HZ.out _ hxw).1.1
              have l1 := (HZ.out _ hxw).1.2.1
              have l2 := (HZ.out _ hxw).1.2.2
              have f0 := (HZ.out _ hxw).2.1
              have f1 := (HZ.out _ hxw).2.2.1
              have f2 := (HZ.out _ hxw).2.2.2
              have p0 := (HQ.out _ hxw).1
              have p1 := (HQ.out _ hxw).2.1
              have p2 := (HQ.out _ hxw).2.2
              clear hj
              go_simp
              try go_bits
              first | rfl | (rw [if_pos (by omega), if_pos (by omega)]; go_simp; rfl) | (rw [if_pos (by omega)]; go_simp; rfl) | skip
            · have l0 := (HZ.out _ hxw).1.1
              have l1 := (HZ.out _ hxw).1.2.1
              have l2 := (HZ.out _ hxw).1.2.2
              have f0 := (HZ.out _ hxw).2.1
              have f1 := (HZ.out _ hxw).2.2.1
              have f2 := (HZ.out _ hxw).2.2.2
              have p0 := (HQ.out _ hxw).1
              have p1 := (HQ.out _ hxw).2.1
              have p2 := (HQ.out _ hxw).2.2
              clear hj
              go_simp
              try go_bits
              first | rfl | (rw [if_pos (by omega), if_pos (by omega)]; go_simp; rfl) | (rw [if_pos (by omega)]; go_simp; rfl) | skip
            · have l0 := (HZ.out _ hxw).1.1
              have l1 := (HZ.out _ hxw).1.2.1
              have l2 := (HZ.out _ hxw).1.2.2
              have f0 := (HZ.out _ hxw).2.1
              have f1 := (HZ.out _ hxw).2.2.1
              have f2 := (HZ.out _ hxw).2.2.2
              have p0 := (HQ.out _ hxw).1
              have p1 := (HQ.out _ hxw).2.1
              have p2 := (HQ.out _ hxw).2.2
              clear hj
              go_simp
              try go_bits
              first | rfl | (rw [if_pos (by omega), if_pos (by omega)]; go_simp; rfl) | (rw [if_pos (by omega)]; go_simp; rfl) | skip
            · have l0 := (HZ.out _ hxw).1.1
              have l1 := (HZ.out _ hxw).1.2.1
              have l2 := (HZ.out _ hxw).1.2.2
              have f0 := (HZ.out _ hxw).2.1
              have f1 := (HZ.out _ hxw).2.2.1
              have f2 := (HZ.out _ hxw).2.2.2
              have p0 := (HQ.out _ hxw).1
              have p1 := (HQ.out _ hxw).2.1
              have p2 := (HQ.out _ hxw).2.2
              clear hj
              go_simp
              try go_bits
              first | rfl | (rw [if_pos (by omega), if_pos (by omega)]; go_simp; rfl) | (rw [if_pos (by omega)]; go_simp; rfl) | skip
            · have l0 := (HZ.out _ hxw).1.1
              have l1 := (HZ.out _ hxw).1.2.1
              have l2 := (HZ.out _ hxw).1.2.2
              have f0 := (HZ.out _ hxw).2.1
              have f1 := (HZ.out _ hxw).2.2.1
              have f2 := (HZ.out _ hxw).2.2.2
              have p0 := (HQ.out _ hxw).1
              have p1 := (HQ.out _ hxw).2.1
              have p2 := (HQ.out _ hxw).2.2
              clear hj
              go_simp
              try go_bits
              first | rfl | (rw [if_pos (by omega), if_pos (by omega)]; go_simp; rfl) | (rw [if_pos (by omega)]; go_simp; rfl) | skip
            · have l0 := (HZ.out _ hxw).1.1
              have l1 := (HZ.out _ hxw).1.2.1
              have l2 := (HZ.out _ hxw).1.2.2
              have f0 := (HZ.out _ hxw).2.1
              have f1 := (HZ.out _ hxw).2.2.1
              have f2 := (HZ.out _ hxw).2.2.2
              have p0 := (HQ.out _ hxw).1
              have p1 := (HQ.out _ hxw).2.1
              have p2 := (HQ.out _ hxw).2.2
              clear hj
              go_simp
              try go_bits
              first | rfl | (rw [if_pos (by omega), if_pos (by omega)]; go_simp; rfl) | (rw [if_pos (by omega)]; go_simp; rfl) | skip
            · have l0 := (HZ.out _ hxw).1.1
              have l1 := (HZ.out _ hxw).1.2.1
              have l2 := (HZ.out _ hxw).1.2.2
              have f0 := (HZ.out _ hxw).2.1
              have f1 := (HZ.out _ hxw).2.2.1
              have f2 := (HZ.out _ hxw).2.2.2
              have p0 := (HQ.out _ hxw).1
              have p1 := (HQ.out _ hxw).2.1
              have p2 := (HQ.out _ hxw).2.2
              clear hj
              go_simp
              try go_bits
              first | rfl | (rw [if_pos (by omega), if_pos (by omega)]; go_simp; rfl) | (rw [if_pos (by omega)]; go_simp; rfl) | skip
            · have l0 := (HZ.out _ hxw).1.1
              have l1 := (HZ.out _ hxw).1.2.1
              have l2 := (HZ.out _ hxw).1.2.2
              have f0 := (HZ.out _ hxw).2.1
              have f1 := (HZ.out _ hxw).2.2.1
              have f2 := (HZ.out _ hxw).2.2.2
              have p0 := (HQ.out _ hxw).1
              have p1 := (HQ.out _ hxw).2.1
              have p2 := (HQ.out _ hxw).2.2
              clear hj
              go_simp
              try go_bits
              first | rfl | (rw [if_pos (by omega), if_pos (by omega)]; go_simp; rfl) | (rw [if_pos (by omega)]; go_simp; rfl) | skip
            · have l0 := (HZ.out _ hxw).1.1
              have l1 := (HZ.out _ hxw).1.2.1
              have l2 := (HZ.out _ hxw).1.2.2
              have f0 := (HZ.out _ hxw).2.1
              have f1 := (HZ.out _ hxw).2.2.1
              have f2 := (HZ.out _ hxw).2.2.2
              have p0 := (HQ.out _ hxw).1
              have p1 := (HQ.out _ hxw).2.1
              have p2 := (HQ.out _ hxw).2.2
              clear hj
              go_simp
              try go_bits
              first | rfl | (rw [if_pos (by omega), if_pos (by omega)]; go_simp; rfl) | (rw [if_pos (by omega)]; go_simp; rfl) | skip
            · have l0 := (HZ.out _ hxw).1.1
              have l1 := (HZ.out _ hxw).1.2.1
              have l2 := (HZ.out _ hxw).1.2.2
              have f0 := (HZ.out _ hxw).2.1
              have f1 := (HZ.out _ hxw).2.2.1
              have f2 := (HZ.out _ hxw).2.2.2
              have p0 := (HQ.out _ hxw).1
              have p1 := (HQ.out _ hxw).2.1
              have p2 := (HQ.out _ hxw).2.2
              clear hj
              go_simp
              try go_bits
              first | rfl | (rw [if_pos (by omega), if_pos (by omega)]; go_simp; rfl) | (rw [if_pos (by omega)]; go_simp; rfl) | skip
            · have l0 := (HZ.out _ hxw).1.1
              have l1 := (HZ.out _ hxw).1.2.1
              have l2 := (HZ.out _ hxw).1.2.2
              have f0 := (HZ.out _ hxw).2.1
              have f1 := (HZ.out _ hxw).2.2.1
              have f2 := (HZ.out _ hxw).2.2.2
              have p0 := (HQ.out _ hxw).1
              have p1 := (HQ.out _ hxw).2.1
              have p2 := (HQ.out _ hxw).2.2
              clear hj
              go_simp
              try go_bits
              first | rfl | (rw [if_pos (by omega), if_pos (by omega)]; go_simp; rfl) | (rw [if_pos (by omega)]; go_simp; rfl) | skip
            · have l0 := (HZ.out _ hxw).1.1
              have l1 := (HZ.out _ hxw).1.2.1
              have l2 := (HZ.out _ hxw).1.2.2
              have f0 := (HZ.out _ hxw).2.1
              have f1 := (HZ.out _ hxw).2.2.1
              have f2 := (HZ.out _ hxw).2.2.2
              have p0 := (HQ.out _ hxw).1
              have p1 := (HQ.out _ hxw).2.1
              have p2 := (HQ.out _ hxw).2.2
              clear hj
              go_simp
              try go_bits
              first | rfl | (rw [if_pos (by omega), if_pos (by omega)]; go_simp; rfl) | (rw [if_pos (by omega)]; go_simp; rfl) | skip
            · have l0 := (HZ.out _ hxw).1.1
              have l1 := (HZ.out _ hxw).1.2.1
              have l2 := (HZ.out _ hxw).1.2.2
              have f0 := (HZ.out _ hxw).2.1
              have f1 := (HZ.out _ hxw).2.2.1
              have f2 := (HZ.out _ hxw).2.2.2
              have p0 := (HQ.out _ hxw).1
              have p1 := (HQ.out _ hxw).2.1
              have p2 := (HQ.out _ hxw).2.2
              clear hj
              go_simp
              try go_bits
              first | rfl | (rw [if_pos (by omega), if_pos (by omega)]; go_simp; rfl) | (rw [if_pos (by omega)]; go_simp; rfl) | skip
            · have l0 := (HZ.out _ hxw).1.1
              have l1 := (HZ.out _ hxw).1.2.1
              have l2 := (HZ.out _ hxw).1.2.2
              have f0 := (HZ.out _ hxw).2.1
              have f1 := (HZ.out _ hxw).2.2.1
              have f2 := (HZ.out _ hxw).2.2.2
              have p0 := (HQ.out _ hxw).1
              have p1 := (HQ.out _ hxw).2.1
              have p2 := (HQ.out _ hxw).2.2
              clear hj
              go_simp
              try go_bits
              first | rfl | (rw [if_pos (by omega), if_pos (by omega)]; go_simp; rfl) | (rw [if_pos (by omega)]; go_simp; rfl) | skip
            · have l0 := (HZ.out _ hxw).1.1
              have l1 := (HZ.out _ hxw).1.2.1
              have l2 := (HZ.out _ hxw).1.2.2
              have f0 := (HZ.out _ hxw).2.1
              have f1 := (HZ.out _ hxw).2.2.1
              have f2 := (HZ.out _ hxw).2.2.2
              have p0 := (HQ.out _ hxw).1
              have p1 := (HQ.out _ hxw).2.1
              have p2 := (HQ.out _ hxw).2.2
              clear hj
              go_simp
              try go_bits
              first | rfl | (rw [if_pos (by omega), if_pos (by omega)]; go_simp; rfl) | (rw [if_pos (by omega)]; go_simp; rfl) | skip
            · have l0 := (HZ.out _ hxw).1.1
              have l1 := (HZ.out _ hxw).1.2.1
              have l2 := (HZ.out _ hxw).1.2.2
              have f0 := (HZ.out _ hxw).2.1
              have f1 := (HZ.out _ hxw).2.2.1
              have f2 := (HZ.out _ hxw).2.2.2
              have p0 := (HQ.out _ hxw).1
              have p1 := (HQ.out _ hxw).2.1
              have p2 := (HQ.out _ hxw).2.2
              clear hj
              go_simp
              try go_bits
              first | rfl | (rw [if_pos (by omega), if_pos (by omega)]; go_simp; rfl) | (rw [if_pos (by omega)]; go_simp; rfl) | skip
            · have l0 := (HZ.out _ hxw).1.1
              have l1 := (HZ.out _ hxw).1.2.1
              have l2 := (HZ.out _ hxw).1.2.2
              have f0 := (HZ.out _ hxw).2.1
              have f1 := (HZ.out _ hxw).2.2.1
              have f2 := (HZ.out _ hxw).2.2.2
              have p0 := (HQ.out _ hxw).1
              have p1 := (HQ.out _ hxw).2.1
              have p2 := (HQ.out _ hxw).2.2
              clear hj
              go_simp
              try go_bits
              exact HK.out.2.1 _
            · have l0 := (HZ.out _ hxw).1.1
              have l1 := (HZ.out _ hxw).1.2.1
              have l2 := (HZ.out _ hxw).1.2.2
              have f0 := (HZ.out _ hxw).2.1
              have f1 := (HZ.out _ hxw).2.2.1
              have f2 := (HZ.out _ hxw).2.2.2
              have p0 := (HQ.out _ hxw).1
              have p1 := (HQ.out _ hxw).2.1
              have p2 := (HQ.out _ hxw).2.2
              clear hj
              go_simp
              try go_bits
              first | rfl | (rw [if_pos (by omega), if_pos (by omega)]; go_simp; rfl) | (rw [if_pos (by omega)]; go_simp; rfl) | skip
            · have l0 := (HZ.out _ hxw).1.1
              have l1 := (HZ.out _ hxw).1.2.1
              have l2 := (HZ.out _ hxw).1.2.2
              have f0 := (HZ.out _ hxw).2.1
              have f1 := (HZ.out _ hxw).2.2.1
              have f2 := (HZ.out _ hxw).2.2.2
              have p0 := (HQ.out _ hxw).1
              have p1 := (HQ.out _ hxw).2.1
              have p2 := (HQ.out _ hxw).2.2
              clear hj
              go_simp
              try go_bits
              first | rfl | (rw [if_pos (by omega), if_pos (by omega)]; go_simp; rfl) | (rw [if_pos (by omega)]; go_simp; rfl) | skip
            · have l0 := (HZ.out _ hxw).1.1
              have l1 := (HZ.out _ hxw).1.2.1
              have l2 := (HZ.out _ hxw).1.2.2
              have f0 := (HZ.out _ hxw).2.1
              have f1 := (HZ.out _ hxw).2.2.1
              have f2 := (HZ.out _ hxw).2.2.2
              have p0 := (HQ.out _ hxw).1
              have p1 := (HQ.out _ hxw).2.1
              have p2 := (HQ.out _ hxw).2.2
              clear hj
              go_simp
              try go_bits
              first | rfl | (rw [if_pos (by omega), if_pos (by omega)]; go_simp; rfl) | (rw [if_pos (by omega)]; go_simp; rfl) | skip
          case' hx8_8_p =>
            intro vs w8 hx8 hk
            clear hk
            replace E := Ext.trans E hx8
            go_simp
            clear hx8
            go_wp2
            go_roundw
            case rel => exact ⟨k + 1, by omega, by go_num, fun q hq => by
              by_cases e : q = k
              · subst e; rw [HK.out.1]; exact decide_eq_true hc0
              · exact HP.out.1 q (by omega), Ext.trans HP.out.2.2.1 E⟩
            case measure => simp [intOf]; omega
        · have HB := Lib.hid (isLab_bad (L := L) (S := S) (by rw [← HM.out.2.1]; exact hlt) (by rw [HK.out.1]; exact decide_eq_false hc0))
          go_wp2
          have E := Ext.alloc wr (.cells #[.int .i64 x, .int .i64 y, .int .i64 z] 36)
          refine wp_region_inv (by kernel_rfl) (.known ?hx8_9_v0 :: .known ?hx8_9_v1 :: .known ?hx8_9_v2 :: .known ?hx8_9_v3 :: .known ?hx8_9_v4 :: .known ?hx8_9_v5 :: .known ?hx8_9_v6 :: .known ?hx8_9_v7 :: .known ?hx8_9_v8 :: .known ?hx8_9_v9 :: .known ?hx8_9_v10 :: .known ?hx8_9_v11 :: .known ?hx8_9_v12 :: .known ?hx8_9_v13 :: .known ?hx8_9_v14 :: .known ?hx8_9_v15 :: .known ?hx8_9_v16 :: .known ?hx8_9_v17 :: .known ?hx8_9_v18 :: .known ?hx8_9_v19 :: .known ?hx8_9_v20 :: .known ?hx8_9_v21 :: .known ?hx8_9_v22 :: .known ?hx8_9_v23 :: .known ?hx8_9_v24 :: .known ?hx8_9_v25 :: .known ?hx8_9_v26 :: .known ?hx8_9_v27 :: .known ?hx8_9_v28 :: .known ?hx8_9_v29 :: .known ?hx8_9_v30 :: .known ?hx8_9_v31 :: .known ?hx8_9_v32 :: .known ?hx8_9_v33 :: .known ?hx8_9_v34 :: .known ?hx8_9_v35 :: .known ?hx8_9_v36 :: .known ?hx8_9_v37 :: .known ?hx8_9_v38 :: .known ?hx8_9_v39 :: .known ?hx8_9_v40 :: .known ?hx8_9_v41 :: .known ?hx8_9_v42 :: .known ?hx8_9_v43 :: .known ?hx8_9_v44 :: .known (.int .i64 c) :: .known ?hx8_9_v46 :: .known ?hx8_9_v47 :: .known ?hx8_9_v48 :: []) rfl (by kernel_rfl) ?hx8_9_s ?hx8_9_p
          case hx8_9_s =>
            intro vs
            refine ⟨fun w' hxw hj => ?_, fun w' hxw hj => ?_, fun w' hxw hj => ?_, fun w' hxw hj => ?_, fun w' hxw hj => ?_, fun w' hxw hj => ?_, fun w' hxw hj => ?_, fun w' hxw hj => ?_, fun w' hxw hj => ?_, fun w' hxw hj => ?_, fun w' hxw hj => ?_, fun w' hxw hj => ?_, fun w' hxw hj => ?_, fun w' hxw hj => ?_, fun w' hxw hj => ?_, fun w' hxw hj => ?_, fun w' hxw hj => ?_, fun w' hxw hj => ?_, fun w' hxw hj => ?_, fun w' hxw hj => ?_, fun w' hxw hj => ?_, fun w' hxw hj => ?_, fun w' hxw hj => ?_, fun w' hxw hj => ?_, fun w' hxw hj => ?_, fun w' hxw hj => ?_, fun w' hxw hj => ?_, fun w' hxw hj => ?_, fun w' hxw hj => ?_, fun w' hxw hj => ?_, fun w' hxw hj => ?_, fun w' hxw hj => ?_, fun w' hxw hj => ?_, fun w' hxw hj => ?_, fun w' hxw hj => ?_, fun w' hxw hj => ?_, fun w' hxw hj => ?_, fun w' hxw hj => ?_, fun w' hxw hj => ?_, fun w' hxw hj => ?_, fun w' hxw hj => ?_, fun w' hxw hj => ?_, fun w' hxw hj => ?_, fun w' hxw hj => ?_, fun w' hxw hj => ?_, fun w' hxw hj => ?_, fun w' hxw hj => ?_, fun w' hxw hj => ?_, fun w' hxw hj => ?_, trivial⟩
            · have l0 := (HZ.out _ hxw).1.1
              have l1 := (HZ.out _ hxw).1.2.1
              have l2 := (HZ.out _ hxw).1.2.2
              have f0 := (HZ.out _ hxw).2.1
              have f1 := (HZ.out _ hxw).2.2.1
              have f2 := (HZ.out _ hxw).2.2.2
              have p0 := (HQ.out _ hxw).1
              have p1 := (HQ.out _ hxw).2.1
              have p2 := (HQ.out _ hxw).2.2
              clear hj
              go_simp
              try go_bits
              first | rfl | (rw [if_pos (by omega), if_pos (by omega)]; go_simp; rfl) | (rw [if_pos (by omega)]; go_simp; rfl) | skip
            · have l0 := (HZ.out _ hxw).1.1
              have l1 := (HZ.out _ hxw).1.2.1
              have l2 := (HZ.out _ hxw).1.2.2
              have f0 := (HZ.out _ hxw).2.1
              have f1 := (HZ.out _ hxw).2.2.1
              have f2 := (HZ.out _ hxw).2.2.2
              have p0 := (HQ.out _ hxw).1
              have p1 := (HQ.out _ hxw).2.1
              have p2 := (HQ.out _ hxw).2.2
              clear hj
              go_simp
              try go_bits
              first | rfl | (rw [if_pos (by omega), if_pos (by omega)]; go_simp; rfl) | (rw [if_pos (by omega)]; go_simp; rfl) | skip
            · have l0 := (HZ.out _ hxw).1.1
              have l1 := (HZ.out _ hxw).1.2.1
              have l2 := (HZ.out _ hxw).1.2.2
              have f0 := (HZ.out _ hxw).2.1
              have f1 := (HZ.out _ hxw).2.2.1
              have f2 := (HZ.out _ hxw).2.2.2
              have p0 := (HQ.out _ hxw).1
              have p1 := (HQ.out _ hxw).2.1
              have p2 := (HQ.out _ hxw).2.2
              clear hj
              go_simp
              try go_bits
              first | rfl | (rw [if_pos (by omega), if_pos (by omega)]; go_simp; rfl) | (rw [if_pos (by omega)]; go_simp; rfl) | skip
            · have l0 := (HZ.out _ hxw).1.1
              have l1 := (HZ.out _ hxw).1.2.1
              have l2 := (HZ.out _ hxw).1.2.2
              have f0 := (HZ.out _ hxw).2.1
              have f1 := (HZ.out _ hxw).2.2.1
              have f2 := (HZ.out _ hxw).2.2.2
              have p0 := (HQ.out _ hxw).1
              have p1 := (HQ.out _ hxw).2.1
              have p2 := (HQ.out _ hxw).2.2
              clear hj
              go_simp
              try go_bits
              first | rfl | (rw [if_pos (by omega), if_pos (by omega)]; go_simp; rfl) | (rw [if_pos (by omega)]; go_simp; rfl) | skip
            · have l0 := (HZ.out _ hxw).1.1
              have l1 := (HZ.out _ hxw).1.2.1
              have l2 := (HZ.out _ hxw).1.2.2
              have f0 := (HZ.out _ hxw).2.1
              have f1 := (HZ.out _ hxw).2.2.1
              have f2 := (HZ.out _ hxw).2.2.2
              have p0 := (HQ.out _ hxw).1
              have p1 := (HQ.out _ hxw).2.1
              have p2 := (HQ.out _ hxw).2.2
              clear hj
              go_simp
              try go_bits
              first | rfl | (rw [if_pos (by omega), if_pos (by omega)]; go_simp; rfl) | (rw [if_pos (by omega)]; go_simp; rfl) | skip
            · have l0 := (HZ.out _ hxw).1.1
              have l1 := (HZ.out _ hxw).1.2.1
              have l2 := (HZ.out _ hxw).1.2.2
              have f0 := (HZ.out _ hxw).2.1
              have f1 := (HZ.out _ hxw).2.2.1
              have f2 := (HZ.out _ hxw).2.2.2
              have p0 := (HQ.out _ hxw).1
              have p1 := (HQ.out _ hxw).2.1
              have p2 := (HQ.out _ hxw).2.2
              clear hj
              go_simp
              try go_bits
              first | rfl | (rw [if_pos (by omega), if_pos (by omega)]; go_simp; rfl) | (rw [if_pos (by omega)]; go_simp; rfl) | skip
            · have l0 := (HZ.out _ hxw).1.1
              have l1 := (HZ.out _ hxw).1.2.1
              have l2 := (HZ.out _ hxw).1.2.2
              have f0 := (HZ.out _ hxw).2.1
              have f1 := (HZ.out _ hxw).2.2.1
              have f2 := (HZ.out _ hxw).2.2.2
              have p0 := (HQ.out _ hxw).1
              have p1 := (HQ.out _ hxw).2.1
              have p2 := (HQ.out _ hxw).2.2
              clear hj
              go_simp
              try go_bits
              first | rfl | (rw [if_pos (by omega), if_pos (by omega)]; go_simp; rfl) | (rw [if_pos (by omega)]; go_simp; rfl) | skip
            · have l0 := (HZ.out _ hxw).1.1
              have l1 := (HZ.out _ hxw).1.2.1
              have l2 := (HZ.out _ hxw).1.2.2
              have f0 := (HZ.out _ hxw).2.1
              have f1 := (HZ.out _ hxw).2.2.1
              have f2 := (HZ.out _ hxw).2.2.2
              have p0 := (HQ.out _ hxw).1
              have p1 := (HQ.out _ hxw).2.1
              have p2 := (HQ.out _ hxw).2.2
              clear hj
              go_simp
              try go_bits
              first | rfl | (rw [if_pos (by omega), if_pos (by omega)]; go_simp; rfl) | (rw [if_pos (by omega)]; go_simp; rfl) | skip
            · have l0 := (HZ.out _ hxw).1.1
              have l1 := (HZ.out _ hxw).1.2.1
              have l2 := (HZ.out _ hxw).1.2.2
              have f0 := (HZ.out _ hxw).2.1
              have f1 := (HZ.out _ hxw).2.2.1
              have f2 := (HZ.out _ hxw).2.2.2
              have p0 := (HQ.out _ hxw).1
              have p1 := (HQ.out _ hxw).2.1
              have p2 := (HQ.out _ hxw).2.2
              clear hj
              go_simp
              try go_bits
              first | rfl | (rw [if_pos (by omega), if_pos (by omega)]; go_simp; rfl) | (rw [if_pos (by omega)]; go_simp; rfl) | skip
            · have l0 := (HZ.out _ hxw).1.1
              have l1 := (HZ.out _ hxw).1.2.1
              have l2 := (HZ.out _ hxw).1.2.2
              have f0 := (HZ.out _ hxw).2.1
              have f1 := (HZ.out _ hxw).2.2.1
              have f2 := (HZ.out _ hxw).2.2.2
              have p0 := (HQ.out _ hxw).1
              have p1 := (HQ.out _ hxw).2.1
              have p2 := (HQ.out _ hxw).2.2
              clear hj
              go_simp
              try go_bits
              first | rfl | (rw [if_pos (by omega), if_pos (by omega)]; go_simp; rfl) | (rw [if_pos (by omega)]; go_simp; rfl) | skip
            · have l0 := (HZ.out _ hxw).1.1
              have l1 := (HZ.out _ hxw).1.2.1
              have l2 := (HZ.out _ hxw).1.2.2
              have f0 := (HZ.out _ hxw).2.1
              have f1 := (HZ.out _ hxw).2.2.1
              have f2 := (HZ.out _ hxw).2.2.2
              have p0 := (HQ.out _ hxw).1
              have p1 := (HQ.out _ hxw).2.1
              have p2 := (HQ.out _ hxw).2.2
              clear hj
              go_simp
              try go_bits
              first | rfl | (rw [if_pos (by omega), if_pos (by omega)]; go_simp; rfl) | (rw [if_pos (by omega)]; go_simp; rfl) | skip
            · have l0 := (HZ.out _ hxw).1.1
              have l1 := (HZ.out _ hxw).1.2.1
              have l2 := (HZ.out _ hxw).1.2.2
              have f0 := (HZ.out _ hxw).2.1
              have f1 := (HZ.out _ hxw).2.2.1
              have f2 := (HZ.out _ hxw).2.2.2
              have p0 := (HQ.out _ hxw).1
              have p1 := (HQ.out _ hxw).2.1
              have p2 := (HQ.out _ hxw).2.2
              clear hj
              go_simp
              try go_bits
              first | rfl | (rw [if_pos (by omega), if_pos (by omega)]; go_simp; rfl) | (rw [if_pos (by omega)]; go_simp; rfl) | skip
            · have l0 := (HZ.out _ hxw).1.1
              have l1 := (HZ.out _ hxw).1.2.1
              have l2 := (HZ.out _ hxw).1.2.2
              have f0 := (HZ.out _ hxw).2.1
              have f1 := (HZ.out _ hxw).2.2.1
              have f2 := (HZ.out _ hxw).2.2.2
              have p0 := (HQ.out _ hxw).1
              have p1 := (HQ.out _ hxw).2.1
              have p2 := (HQ.out _ hxw).2.2
              clear hj
              go_simp
              try go_bits
              first | rfl | (rw [if_pos (by omega), if_pos (by omega)]; go_simp; rfl) | (rw [if_pos (by omega)]; go_simp; rfl) | skip
            · have l0 := (HZ.out _ hxw).1.1
              have l1 := (HZ.out _ hxw).1.2.1
              have l2 := (HZ.out _ hxw).1.2.2
              have f0 := (HZ.out _ hxw).2.1
              have f1 := (HZ.out _ hxw).2.2.1
              have f2 := (HZ.out _ hxw).2.2.2
              have p0 := (HQ.out _ hxw).1
              have p1 := (HQ.out _ hxw).2.1
              have p2 := (HQ.out _ hxw).2.2
              clear hj
              go_simp
              try go_bits
              first | rfl | (rw [if_pos (by omega), if_pos (by omega)]; go_simp; rfl) | (rw [if_pos (by omega)]; go_simp; rfl) | skip
            · have l0 := (HZ.out _ hxw).1.1
              have l1 := (HZ.out _ hxw).1.2.1
              have l2 := (HZ.out _ hxw).1.2.2
              have f0 := (HZ.out _ hxw).2.1
              have f1 := (HZ.out _ hxw).2.2.1
              have f2 := (HZ.out _ hxw).2.2.2
              have p0 := (HQ.out _ hxw).1
              have p1 := (HQ.out _ hxw).2.1
              have p2 := (HQ.out _ hxw).2.2
              clear hj
              go_simp
              try go_bits
              first | rfl | (rw [if_pos (by omega), if_pos (by omega)]; go_simp; rfl) | (rw [if_pos (by omega)]; go_simp; rfl) | skip
            · have l0 := (HZ.out _ hxw).1.1
              have l1 := (HZ.out _ hxw).1.2.1
              have l2 := (HZ.out _ hxw).1.2.2
              have f0 := (HZ.out _ hxw).2.1
              have f1 := (HZ.out _ hxw).2.2.1
              have f2 := (HZ.out _ hxw).2.2.2
              have p0 := (HQ.out _ hxw).1
              have p1 := (HQ.out _ hxw).2.1
              have p2 := (HQ.out _ hxw).2.2
              clear hj
              go_simp
              try go_bits
              first | rfl | (rw [if_pos (by omega), if_pos (by omega)]; go_simp; rfl) | (rw [if_pos (by omega)]; go_simp; rfl) | skip
            · have l0 := (HZ.out _ hxw).1.1
              have l1 := (HZ.out _ hxw).1.2.1
              have l2 := (HZ.out _ hxw).1.2.2
              have f0 := (HZ.out _ hxw).2.1
              have f1 := (HZ.out _ hxw).2.2.1
              have f2 := (HZ.out _ hxw).2.2.2
              have p0 := (HQ.out _ hxw).1
              have p1 := (HQ.out _ hxw).2.1
              have p2 := (HQ.out _ hxw).2.2
              clear hj
              go_simp
              try go_bits
              first | rfl | (rw [if_pos (by omega), if_pos (by omega)]; go_simp; rfl) | (rw [if_pos (by omega)]; go_simp; rfl) | skip
            · have l0 := (HZ.out _ hxw).1.1
              have l1 := (HZ.out _ hxw).1.2.1
              have l2 := (HZ.out _ hxw).1.2.2
              have f0 := (HZ.out _ hxw).2.1
              have f1 := (HZ.out _ hxw).2.2.1
              have f2 := (HZ.out _ hxw).2.2.2
              have p0 := (HQ.out _ hxw).1
              have p1 := (HQ.out _ hxw).2.1
              have p2 := (HQ.out _ hxw).2.2
              clear hj
              go_simp
              try go_bits
              first | rfl | (rw [if_pos (by omega), if_pos (by omega)]; go_simp; rfl) | (rw [if_pos (by omega)]; go_simp; rfl) | skip
            · have l0 := (HZ.out _ hxw).1.1
              have l1 := (HZ.out _ hxw).1.2.1
              have l2 := (HZ.out _ hxw).1.2.2
              have f0 := (HZ.out _ hxw).2.1
              have f1 := (HZ.out _ hxw).2.2.1
              have f2 := (HZ.out _ hxw).2.2.2
              have p0 := (HQ.out _ hxw).1
              have p1 := (HQ.out _ hxw).2.1
              have p2 := (HQ.out _ hxw).2.2
              clear hj
              go_simp
              try go_bits
              first | rfl | (rw [if_pos (by omega), if_pos (by omega)]; go_simp; rfl) | (rw [if_pos (by omega)]; go_simp; rfl) | skip
            · have l0 := (HZ.out _ hxw).1.1
              have l1 := (HZ.out _ hxw).1.2.1
              have l2 := (HZ.out _ hxw).1.2.2
              have f0 := (HZ.out _ hxw).2.1
              have f1 := (HZ.out _ hxw).2.2.1
              have f2 := (HZ.out _ hxw).2.2.2
              have p0 := (HQ.out _ hxw).1
              have p1 := (HQ.out _ hxw).2.1
              have p2 := (HQ.out _ hxw).2.2
              clear hj
              go_simp
              try go_bits
              first | rfl | (rw [if_pos (by omega), if_pos (by omega)]; go_simp; rfl) | (rw [if_pos (by omega)]; go_simp; rfl) | skip
            · have l0 := (HZ.out _ hxw).1.1
              have l1 := (HZ.out _ hxw).1.2.1
              have l2 := (HZ.out _ hxw).1.2.2
              have f0 := (HZ.out _ hxw).2.1
              have f1 := (HZ.out _ hxw).2.2.1
              have f2 := (HZ.out _ hxw).2.2.2
              have p0 := (HQ.out _ hxw).1
              have p1 := (HQ.out _ hxw).2.1
              have p2 := (HQ.out _ hxw).2.2
              clear hj
              go_simp
              try go_bits
              first | rfl | (rw [if_pos (by omega), if_pos (by omega)]; go_simp; rfl) | (rw [if_pos (by omega)]; go_simp; rfl) | skip
            · have l0 := (HZ.out _ hxw).1.1
              have l1 := (HZ.out _ hxw).1.2.1
              have l2 := (HZ.out _ hxw).1.2.2
              have f0 := (HZ.out _ hxw).2.1
              have f1 := (HZ.out _ hxw).2.2.1
              have f2 := (HZ.out _ hxw).2.2.2
              have p0 := (HQ.out _ hxw).1
              have p1 := (HQ.out _ hxw).2.1
              have p2 := (HQ.out _ hxw).2.2
              clear hj
              go_simp
              try go_bits
              first | rfl | (rw [if_pos (by omega), if_pos (by omega)]; go_simp; rfl) | (rw [if_pos (by omega)]; go_simp; rfl) | skip
            · have l0 := (HZ.out _ hxw).1.1
              have l1 := (HZ.out _ hxw).1.2.1
              have l2 := (HZ.out _ hxw).1.2.2
              have f0 := (HZ.out _ hxw).2.1
              have f1 := (HZ.out _ hxw).2.2.1
              have f2 := (HZ.out _ hxw).2.2.2
              have p0 := (HQ.out _ hxw).1
              have p1 := (HQ.out _ hxw).2.1
              have p2 := (HQ.out _ hxw).2.2
              clear hj
              go_simp
              try go_bits
              first | rfl | (rw [if_pos (by omega), if_pos (by omega)]; go_simp; rfl) | (rw [if_pos (by omega)]; go_simp; rfl) | skip
            · have l0 := (HZ.out _ hxw).1.1
              have l1 := (HZ.out _ hxw).1.2.1
              have l2 := (HZ.out _ hxw).1.2.2
              have f0 := (HZ.out _ hxw).2.1
              have f1 := (HZ.out _ hxw).2.2.1
              have f2 := (HZ.out _ hxw).2.2.2
              have p0 := (HQ.out _ hxw).1
              have p1 := (HQ.out _ hxw).2.1
              have p2 := (HQ.out _ hxw).2.2
              clear hj
              go_simp
              try go_bits
              first | rfl | (rw [if_pos (by omega), if_pos (by omega)]; go_simp; rfl) | (rw [if_pos (by omega)]; go_simp; rfl) | skip
            · have l0 := (HZ.out _ hxw).1.1
              have l1 := (HZ.out _ hxw).1.2.1
              have l2 := (HZ.out _ hxw).1.2.2
              have f0 := (HZ.out _ hxw).2.1
              have f1 := (HZ.out _ hxw).2.2.1
              have f2 := (HZ.out _ hxw).2.2.2
              have p0 := (HQ.out _ hxw).1
              have p1 := (HQ.out _ hxw).2.1
              have p2 := (HQ.out _ hxw).2.2
              clear hj
              go_simp
              try go_bits
              first | rfl | (rw [if_pos (by omega), if_pos (by omega)]; go_simp; rfl) | (rw [if_pos (by omega)]; go_simp; rfl) | skip
            · have l0 := (HZ.out _ hxw).1.1
              have l1 := (HZ.out _ hxw).1.2.1
              have l2 := (HZ.out _ hxw).1.2.2
              have f0 := (HZ.out _ hxw).2.1
              have f1 := (HZ.out _ hxw).2.2.1
              have f2 := (HZ.out _ hxw).2.2.2
              have p0 := (HQ.out _ hxw).1
              have p1 := (HQ.out _ hxw).2.1
              have p2 := (HQ.out _ hxw).2.2
              clear hj
              go_simp
              try go_bits
              first | rfl | (rw [if_pos (by omega), if_pos (by omega)]; go_simp; rfl) | (rw [if_pos (by omega)]; go_simp; rfl) | skip
            · have l0 := (HZ.out _ hxw).1.1
              have l1 := (HZ.out _ hxw).1.2.1
              have l2 := (HZ.out _ hxw).1.2.2
              have f0 := (HZ.out _ hxw).2.1
              have f1 := (HZ.out _ hxw).2.2.1
              have f2 := (HZ.out _ hxw).2.2.2
              have p0 := (HQ.out _ hxw).1
              have p1 := (HQ.out _ hxw).2.1
              have p2 := (HQ.out _ hxw).2.2
              clear hj
              go_simp
              try go_bits
              first | rfl | (rw [if_pos (by omega), if_pos (by omega)]; go_simp; rfl) | (rw [if_pos (by omega)]; go_simp; rfl) | skip
            · have l0 := (HZ.out _ hxw).1.1
              have l1 := (HZ.out _ hxw).1.2.1
              have l2 := (HZ.out _ hxw).1.2.2
              have f0 := (HZ.out _ hxw).2.1
              have f1 := (HZ.out _ hxw).2.2.1
              have f2 := (HZ.out _ hxw).2.2.2
              have p0 := (HQ.out _ hxw).1
              have p1 := (HQ.out _ hxw).2.1
              have p2 := (HQ.out _ hxw).2.2
              clear hj
              go_simp
              try go_bits
              first | rfl | (rw [if_pos (by omega), if_pos (by omega)]; go_simp; rfl) | (rw [if_pos (by omega)]; go_simp; rfl) | skip
            · have l0 := (HZ.out _ hxw).1.1
              have l1 := (HZ.out _ hxw).1.2.1
              have l2 := (HZ.out _ hxw).1.2.2
              have f0 := (HZ.out _ hxw).2.1
              have f1 := (HZ.out _ hxw).2.2.1
              have f2 := (HZ.out _ hxw).2.2.2
              have p0 := (HQ.out _ hxw).1
              have p1 := (HQ.out _ hxw).2.1
              have p2 := (HQ.out _ hxw).2.2
              clear hj
              go_simp
              try go_bits
              first | rfl | (rw [if_pos (by omega), if_pos (by omega)]; go_simp; rfl) | (rw [if_pos (by omega)]; go_simp; rfl) | skip
            · have l0 := (HZ.out _ hxw).1.1
              have l1 := (HZ.out _ hxw).1.2.1
              have l2 := (HZ.out _ hxw).1.2.2
              have f0 := (HZ.out _ hxw).2.1
              have f1 := (HZ.out _ hxw).2.2.1
              have f2 := (HZ.out _ hxw).2.2.2
              have p0 := (HQ.out _ hxw).1
              have p1 := (HQ.out _ hxw).2.1
              have p2 := (HQ.out _ hxw).2.2
              clear hj
              go_simp
              try go_bits
              first | rfl | (rw [if_pos (by omega), if_pos (by omega)]; go_simp; rfl) | (rw [if_pos (by omega)]; go_simp; rfl) | skip
            · have l0 := (HZ.out _ hxw).1.1
              have l1 := (HZ.out _ hxw).1.2.1
              have l2 := (HZ.out _ hxw).1.2.2
              have f0 := (HZ.out _ hxw).2.1
              have f1 := (HZ.out _ hxw).2.2.1
              have f2 := (HZ.out _ hxw).2.2.2
              have p0 := (HQ.out _ hxw).1
              have p1 := (HQ.out _ hxw).2.1
              have p2 := (HQ.out _ hxw).2.2
              clear hj
              go_simp
              try go_bits
              first | rfl | (rw [if_pos (by omega), if_pos (by omega)]; go_simp; rfl) | (rw [if_pos (by omega)]; go_simp; rfl) | skip
            · have l0 := (HZ.out _ hxw).1.1
              have l1 := (HZ.out _ hxw).1.2.1
              have l2 := (HZ.out _ hxw).1.2.2
              have f0 := (HZ.out _ hxw).2.1
              have f1 := (HZ.out _ hxw).2.2.1
              have f2 := (HZ.out _ hxw).2.2.2
              have p0 := (HQ.out _ hxw).1
              have p1 := (HQ.out _ hxw).2.1
              have p2 := (HQ.out _ hxw).2.2
              clear hj
              go_simp
              try go_bits
              first | rfl | (rw [if_pos (by omega), if_pos (by omega)]; go_simp; rfl) | (rw [if_pos (by omega)]; go_simp; rfl) | skip
            · have l0 := (HZ.out _ hxw).1.1
              have l1 := (HZ.out _ hxw).1.2.1
              have l2 := (HZ.out _ hxw).1.2.2
              have f0 := (HZ.out _ hxw).2.1
              have f1 := (HZ.out _ hxw).2.2.1
              have f2 := (HZ.out _ hxw).2.2.2
              have p0 := (HQ.out _ hxw).1
              have p1 := (HQ.out _ hxw).2.1
              have p2 := (HQ.out _ hxw).2.2
              clear hj
              go_simp
              try go_bits
              first | rfl | (rw [if_pos (by omega), if_pos (by omega)]; go_simp; rfl) | (rw [if_pos (by omega)]; go_simp; rfl) | skip
            · have l0 := (HZ.out _ hxw).1.1
              have l1 := (HZ.out _ hxw).1.2.1
              have l2 := (HZ.out _ hxw).1.2.2
              have f0 := (HZ.out _ hxw).2.1
              have f1 := (HZ.out _ hxw).2.2.1
              have f2 := (HZ.out _ hxw).2.2.2
              have p0 := (HQ.out _ hxw).1
              have p1 := (HQ.out _ hxw).2.1
              have p2 := (HQ.out _ hxw).2.2
              clear hj
              go_simp
              try go_bits
              first | rfl | (rw [if_pos (by omega), if_pos (by omega)]; go_simp; rfl) | (rw [if_pos (by omega)]; go_simp; rfl) | skip
            · have l0 := (HZ.out _ hxw).1.1
              have l1 := (HZ.out _ hxw).1.2.1
              have l2 := (HZ.out _ hxw).1.2.2
              have f0 := (HZ.out _ hxw).2.1
              have f1 := (HZ.out _ hxw).2.2.1
              have f2 := (HZ.out _ hxw).2.2.2
              have p0 := (HQ.out _ hxw).1
              have p1 := (HQ.out _ hxw).2.1
              have p2 := (HQ.out _ hxw).2.2
              clear hj
              go_simp
              try go_bits
              first | rfl | (rw [if_pos (by omega), if_pos (by omega)]; go_simp; rfl) | (rw [if_pos (by omega)]; go_simp; rfl) | skip
            · have l0 := (HZ.out _ hxw).1.1
              have l1 := (HZ.out _ hxw).1.2.1
              have l2 := (HZ.out _ hxw).1.2.2
              have f0 := (HZ.out _ hxw).2.1
              have f1 := (HZ.out _ hxw).2.2.1
              have f2 := (HZ.out _ hxw).2.2.2
              have p0 := (HQ.out _ hxw).1
              have p1 := (HQ.out _ hxw).2.1
              have p2 := (HQ.out _ hxw).2.2
              clear hj
              go_simp
              try go_bits
              first | rfl | (rw [if_pos (by omega), if_pos (by omega)]; go_simp; rfl) | (rw [if_pos (by omega)]; go_simp; rfl) | skip
            · have l0 := (HZ.out _ hxw).1.1
              have l1 := (HZ.out _ hxw).1.2.1
              have l2 := (HZ.out _ hxw).1.2.2
              have f0 := (HZ.out _ hxw).2.1
              have f1 := (HZ.out _ hxw).2.2.1
              have f2 := (HZ.out _ hxw).2.2.2
              have p0 := (HQ.out _ hxw).1
              have p1 := (HQ.out _ hxw).2.1
              have p2 := (HQ.out _ hxw).2.2
              clear hj
              go_simp
              try go_bits
              first | rfl | (rw [if_pos (by omega), if_pos (by omega)]; go_simp; rfl) | (rw [if_pos (by omega)]; go_simp; rfl) | skip
            · have l0 := (HZ.out _ hxw).1.1
              have l1 := (HZ.out _ hxw).1.2.1
              have l2 := (HZ.out _ hxw).1.2.2
              have f0 := (HZ.out _ hxw).2.1
              have f1 := (HZ.out _ hxw).2.2.1
              have f2 := (HZ.out _ hxw).2.2.2
              have p0 := (HQ.out _ hxw).1
              have p1 := (HQ.out _ hxw).2.1
              have p2 := (HQ.out _ hxw).2.2
              clear hj
              go_simp
              try go_bits
              first | rfl | (rw [if_pos (by omega), if_pos (by omega)]; go_simp; rfl) | (rw [if_pos (by omega)]; go_simp; rfl) | skip
            · have l0 := (HZ.out _ hxw).1.1
              have l1 := (HZ.out _ hxw).1.2.1
              have l2 := (HZ.out _ hxw).1.2.2
              have f0 := (HZ.out _ hxw).2.1
              have f1 := (HZ.out _ hxw).2.2.1
              have f2 := (HZ.out _ hxw).2.2.2
              have p0 := (HQ.out _ hxw).1
              have p1 := (HQ.out _ hxw).2.1
              have p2 := (HQ.out _ hxw).2.2
              clear hj
              go_simp
              try go_bits
              first | rfl | (rw [if_pos (by omega), if_pos (by omega)]; go_simp; rfl) | (rw [if_pos (by omega)]; go_simp; rfl) | skip
            · have l0 := (HZ.out _ hxw).1.1
              have l1 := (HZ.out _ hxw).1.2.1
              have l2 := (HZ.out _ hxw).1.2.2
              have f0 := (HZ.out _ hxw).2.1
              have f1 := (HZ.out _ hxw).2.2.1
              have f2 := (HZ.out _ hxw).2.2.2
              have p0 := (HQ.out _ hxw).1
              have p1 := (HQ.out _ hxw).2.1
              have p2 := (HQ.out _ hxw).2.2
              clear hj
              go_simp
              try go_bits
              first | rfl | (rw [if_pos (by omega), if_pos (by omega)]; go_simp; rfl) | (rw [if_pos (by omega)]; go_simp; rfl) | skip
            · have l0 := (HZ.out _ hxw).1.1
              have l1 := (HZ.out _ hxw).1.2.1
              have l2 := (HZ.out _ hxw).1.2.2
              have f0 := (HZ.out _ hxw).2.1
              have f1 := (HZ.out _ hxw).2.2.1
              have f2 := (HZ.out _ hxw).2.2.2
              have p0 := (HQ.out _ hxw).1
              have p1 := (HQ.out _ hxw).2.1
              have p2 := (HQ.out _ hxw).2.2
              clear hj
              go_simp
              try go_bits
              first | rfl | (rw [if_pos (by omega), if_pos (by omega)]; go_simp; rfl) | (rw [if_pos (by omega)]; go_simp; rfl) | skip
            · have l0 := (HZ.out _ hxw).1.1
              have l1 := (HZ.out _ hxw).1.2.1
              have l2 := (HZ.out _ hxw).1.2.2
              have f0 := (HZ.out _ hxw).2.1
              have f1 := (HZ.out _ hxw).2.2.1
              have f2 := (HZ.out _ hxw).2.2.2
              have p0 := (HQ.out _ hxw).1
              have p1 := (HQ.out _ hxw).2.1
              have p2 := (HQ.out _ hxw).2.2
              clear hj
              go_simp
              try go_bits
              first | rfl | (rw [if_pos (by omega), if_pos (by omega)]; go_simp; rfl) | (rw [if_pos (by omega)]; go_simp; rfl) | skip
            · have l0 := (HZ.out _ hxw).1.1
              have l1 := (HZ.out _ hxw).1.2.1
              have l2 := (HZ.out _ hxw).1.2.2
              have f0 := (HZ.out _ hxw).2.1
              have f1 := (HZ.out _ hxw).2.2.1
              have f2 := (HZ.out _ hxw).2.2.2
              have p0 := (HQ.out _ hxw).1
              have p1 := (HQ.out _ hxw).2.1
              have p2 := (HQ.out _ hxw).2.2
              clear hj
              go_simp
              try go_bits
              first | rfl | (rw [if_pos (by omega), if_pos (by omega)]; go_simp; rfl) | (rw [if_pos (by omega)]; go_simp; rfl) | skip
            · have l0 := (HZ.out _ hxw).1.1
              have l1 := (HZ.out _ hxw).1.2.1
              have l2 := (HZ.out _ hxw).1.2.2
              have f0 := (HZ.out _ hxw).2.1
              have f1 := (HZ.out _ hxw).2.2.1
              have f2 := (HZ.out _ hxw).2.2.2
              have p0 := (HQ.out _ hxw).1
              have p1 := (HQ.out _ hxw).2.1
              have p2 := (HQ.out _ hxw).2.2
              clear hj
              go_simp
              try go_bits
              first | rfl | (rw [if_pos (by omega), if_pos (by omega)]; go_simp; rfl) | (rw [if_pos (by omega)]; go_simp; rfl) | skip
            · have l0 := (HZ.out _ hxw).1.1
              have l1 := (HZ.out _ hxw).1.2.1
              have l2 := (HZ.out _ hxw).1.2.2
              have f0 := (HZ.out _ hxw).2.1
              have f1 := (HZ.out _ hxw).2.2.1
              have f2 := (HZ.out _ hxw).2.2.2
              have p0 := (HQ.out _ hxw).1
              have p1 := (HQ.out _ hxw).2.1
              have p2 := (HQ.out _ hxw).2.2
              clear hj
              go_simp
              try go_bits
              first | rfl | (rw [if_pos (by omega), if_pos (by omega)]; go_simp; rfl) | (rw [if_pos (by omega)]; go_simp; rfl) | skip
            · have l0 := (HZ.out _ hxw).1.1
              have l1 := (HZ.out _ hxw).1.2.1
              have l2 := (HZ.out _ hxw).1.2.2
              have f0 := (HZ.out _ hxw).2.1
              have f1 := (HZ.out _ hxw).2.2.1
              have f2 := (HZ.out _ hxw).2.2.2
              have p0 := (HQ.out _ hxw).1
              have p1 := (HQ.out _ hxw).2.1
              have p2 := (HQ.out _ hxw).2.2
              clear hj
              go_simp
              try go_bits
              exact HK.out.2.1 _
            · have l0 := (HZ.out _ hxw).1.1
              have l1 := (HZ.out _ hxw).1.2.1
              have l2 := (HZ.out _ hxw).1.2.2
              have f0 := (HZ.out _ hxw).2.1
              have f1 := (HZ.out _ hxw).2.2.1
              have f2 := (HZ.out _ hxw).2.2.2
              have p0 := (HQ.out _ hxw).1
              have p1 := (HQ.out _ hxw).2.1
              have p2 := (HQ.out _ hxw).2.2
              clear hj
              go_simp
              try go_bits
              first | rfl | (rw [if_pos (by omega), if_pos (by omega)]; go_simp; rfl) | (rw [if_pos (by omega)]; go_simp; rfl) | skip
            · have l0 := (HZ.out _ hxw).1.1
              have l1 := (HZ.out _ hxw).1.2.1
              have l2 := (HZ.out _ hxw).1.2.2
              have f0 := (HZ.out _ hxw).2.1
              have f1 := (HZ.out _ hxw).2.2.1
              have f2 := (HZ.out _ hxw).2.2.2
              have p0 := (HQ.out _ hxw).1
              have p1 := (HQ.out _ hxw).2.1
              have p2 := (HQ.out _ hxw).2.2
              clear hj
              go_simp
              try go_bits
              first | rfl | (rw [if_pos (by omega), if_pos (by omega)]; go_simp; rfl) | (rw [if_pos (by omega)]; go_simp; rfl) | skip
            · have l0 := (HZ.out _ hxw).1.1
              have l1 := (HZ.out _ hxw).1.2.1
              have l2 := (HZ.out _ hxw).1.2.2
              have f0 := (HZ.out _ hxw).2.1
              have f1 := (HZ.out _ hxw).2.2.1
              have f2 := (HZ.out _ hxw).2.2.2
              have p0 := (HQ.out _ hxw).1
              have p1 := (HQ.out _ hxw).2.1
              have p2 := (HQ.out _ hxw).2.2
              clear hj
              go_simp
              try go_bits
              first | rfl | (rw [if_pos (by omega), if_pos (by omega)]; go_simp; rfl) | (rw [if_pos (by omega)]; go_simp; rfl) | skip
          case' hx8_9_p =>
            intro vs w8 hx8 hk
            clear hk
            replace E := Ext.trans E hx8
            go_simp
            clear hx8
            go_wp2
            go_ret
            exact ⟨lab_bool HB.out.symm, Ext.trans HP.out.2.2.2 E⟩
    · have hkn : k = n := by omega
      have HB := Lib.hid ((isLab_all (L := L) (S := S) fun j hj => hp j (by rw [hkn, HM.out.2.1]; exact hj)).trans HM.out.2.2.2)
      clear hp
      go_wp2
      go_ret
      exact ⟨lab_bool HB.out.symm, E⟩
end Go.Proofs.Ytjfgbnihnnlneaa

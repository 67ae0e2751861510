/- Contracts: valid labelled graphs, by the reference. -/
import Derived.Test.YtjfgbnihnnlneaaLabM
namespace Go.Proofs.Ytjfgbnihnnlneaa
open Go.RowKit

def sokAt (T U : Int) (ar : List (Int × Int × Int)) (k : Nat) : Bool :=
  ((decide (0 ≤ (ar.getD k (0, 0, 0)).1) && decide ((ar.getD k (0, 0, 0)).1 ≤ T)) && ((decide (0 ≤ (ar.getD k (0, 0, 0)).2.1) && decide ((ar.getD k (0, 0, 0)).2.1 ≤ T)) && (decide (0 ≤ (ar.getD k (0, 0, 0)).2.2) && decide ((ar.getD k (0, 0, 0)).2.2 ≤ U)))) && (decide (k = 0) || decide (cmpA (ar.getD (k - 1) (0, 0, 0)) (ar.getD k (0, 0, 0)) < 0))
theorem sokAt_ok {L S : Int} (ar : List (Int × Int × Int)) (k : Nat) : sokAt (S - 1) (L - 1) ar k = okAt L S ar k := by
  unfold sokAt okAt arcOk
  congr 1
  rw [Bool.eq_iff_iff]
  simp
  omega
theorem isLab_sbad {L S T U : Int} {ar : List (Int × Int × Int)} (hT : 1 ≤ S → S ≤ 12 → T = S - 1) (hU : 1 ≤ L → L ≤ 3 → U = L - 1) {k : Nat} (hk : k < ar.length) (h : sokAt T U ar k = false) : isLab L S ar = false := by
  by_cases hL : 1 ≤ L ∧ L ≤ 3
  · by_cases hS : 1 ≤ S ∧ S ≤ 12
    · rw [hT hS.1 hS.2, hU hL.1 hL.2, sokAt_ok] at h
      exact isLab_bad hk h
    · exact isLab_head (.inr hS)
  · exact isLab_head (.inl hL)
theorem isLab_sall {L S T U : Int} {ar : List (Int × Int × Int)} (hT : 1 ≤ S → S ≤ 12 → T = S - 1) (hU : 1 ≤ L → L ≤ 3 → U = L - 1) (h : ∀ j, j < ar.length → sokAt T U ar j = true) : isLab L S ar = ((decide (1 ≤ L) && decide (L ≤ 3)) && (decide (1 ≤ S) && decide (S ≤ 12))) := by
  by_cases hL : 1 ≤ L ∧ L ≤ 3
  · by_cases hS : 1 ≤ S ∧ S ≤ 12
    · rw [isLab_all fun j hj => by
        have := h j hj
        rw [hT hS.1 hS.2, hU hL.1 hL.2, sokAt_ok] at this
        exact this]
      simp
    · rw [isLab_head (.inr hS)]
      symm
      simp
      omega
  · rw [isLab_head (.inl hL)]
    symm
    simp
    omega
theorem sokAt_arc {T U : Int} {ar : List (Int × Int × Int)} {k : Nat} {x y z : Int} (hx : ar[k]? = some (x, y, z)) (h : (decide (0 ≤ x) && decide (x ≤ T)) = false ∨ (decide (0 ≤ y) && decide (y ≤ T)) = false ∨ (decide (0 ≤ z) && decide (z ≤ U)) = false) : sokAt T U ar k = false := by
  unfold sokAt
  rw [List.getD_eq_getElem?_getD, hx, Option.getD_some]
  rcases h with h | h | h <;> simp only [h, Bool.false_and, Bool.and_false]
theorem sokAt_zero {T U : Int} {ar : List (Int × Int × Int)} {x y z : Int} (hx : ar[0]? = some (x, y, z)) (h1 : (decide (0 ≤ x) && decide (x ≤ T)) = true) (h2 : (decide (0 ≤ y) && decide (y ≤ T)) = true) (h3 : (decide (0 ≤ z) && decide (z ≤ U)) = true) : sokAt T U ar 0 = true := by
  unfold sokAt
  rw [List.getD_eq_getElem?_getD, hx, Option.getD_some]
  simp only [h1, h2, h3]
  simp
theorem sokAt_succ {T U : Int} {ar : List (Int × Int × Int)} {k : Nat} {x y z x' y' z' : Int} (hp : ar[k]? = some (x', y', z')) (hx : ar[k + 1]? = some (x, y, z)) (h1 : (decide (0 ≤ x) && decide (x ≤ T)) = true) (h2 : (decide (0 ≤ y) && decide (y ≤ T)) = true) (h3 : (decide (0 ≤ z) && decide (z ≤ U)) = true) : sokAt T U ar (k + 1) = decide (cmpA (x', y', z') (x, y, z) < 0) := by
  unfold sokAt
  rw [List.getD_eq_getElem?_getD, hx, Option.getD_some, Nat.add_sub_cancel, List.getD_eq_getElem?_getD, hp, Option.getD_some]
  simp only [h1, h2, h3]
  simp

set_option maxRecDepth 100000 in
set_option maxHeartbeats 8000000 in
theorem spec_IsLabels_any (L S : Int) (u : Value) (ar : List (Int × Int × Int)) (w : World) (h : ReadsArcs w u ar) :
    Calls Try.prog 10 #[.agg #[.int .i64 L, .int .i64 S, u]] w fun e w' => e = .returned (.bool (isLab L S ar)) ∧ Ext w w' := by
  obtain ⟨pa, ca, rfl⟩ := h.slice
  obtain ⟨-, hlc, hc⟩ := h.len
  obtain ⟨T, hT⟩ : ∃ T, wrap64 (S - 1) = T := ⟨_, rfl⟩
  obtain ⟨U, hU⟩ : ∃ U, wrap64 (L - 1) = U := ⟨_, rfl⟩
  have hT' : 1 ≤ S → S ≤ 12 → T = S - 1 := fun h1 h2 => by rw [← hT]; unfold wrap64; omega
  have hU' : 1 ≤ L → L ≤ 3 → U = L - 1 := fun h1 h2 => by rw [← hU]; unfold wrap64; omega
  obtain ⟨n, hn⟩ : ∃ n, n = ar.length := ⟨_, rfl⟩
  rw [← hn] at h hlc ⊢
  have HM := Lib.hid (And.intro h (And.intro hn (And.intro hT' hU')))
  clear h hn hT' hU'
  go_enter Try.func10, Try.ntmps10
  go_wp2
  go_loopw [3] (fun q wr => ∃ k : Nat, k ≤ n ∧ q = .int .i64 k ∧ (∀ j, j < k → sokAt T U ar j = true) ∧ Ext (w.alloc (.cells #[.int .i64 L, .int .i64 S, .slice pa n ca] 29)) wr) (fun q _ => n - (intOf q).toNat)
  case atStart => exact ⟨0, by omega, rfl, fun j hj => by omega, Ext.refl _⟩
  case round =>
    obtain ⟨k, hk, rfl, hp, hx⟩ := hrel
    have E := Ext.trans (Ext.alloc w (.cells #[.int .i64 L, .int .i64 S, .slice pa n ca] 29)) hx
    have l0 := hx.cell_some (fresh_cell (n := w.heap.size) (i := 0) rfl rfl)
    have l1 := hx.cell_some (fresh_cell (n := w.heap.size) (i := 1) rfl rfl)
    have l2 := hx.cell_some (fresh_cell (n := w.heap.size) (i := 2) rfl rfl)
    by_cases hlt : k < n
    · obtain ⟨b, o, x, y, z, rfl, hxyz, k0, k1, k2⟩ := (HM.out.1.ext E).at k (by rw [← HM.out.2.1]; exact hlt)
      have HZ := Lib.hid (show ∀ w', Ext (wr.alloc (.cells #[.int .i64 x, .int .i64 y, .int .i64 z] 36)) w' → (w'.cell? ⟨w.heap.size, 0, none⟩ = some (.int .i64 L) ∧ w'.cell? ⟨w.heap.size, 1, none⟩ = some (.int .i64 S) ∧ w'.cell? ⟨w.heap.size, 2, none⟩ = some (.slice (some ⟨b, o, none⟩) n ca)) ∧ w'.cell? ⟨wr.heap.size, 0, none⟩ = some (.int .i64 x) ∧ w'.cell? ⟨wr.heap.size, 1, none⟩ = some (.int .i64 y) ∧ w'.cell? ⟨wr.heap.size, 2, none⟩ = some (.int .i64 z) from
        fun w' hw => ⟨⟨hw.cell_some (old_cell l0), hw.cell_some (old_cell l1), hw.cell_some (old_cell l2)⟩, hw.cell_some (fresh_cell rfl rfl), hw.cell_some (fresh_cell rfl rfl), hw.cell_some (fresh_cell rfl rfl)⟩)
      have HP := Lib.hid (And.intro hp (And.intro hxyz (And.intro hx E)))
      obtain ⟨b1, hb1⟩ : ∃ c, c = (decide (0 ≤ x) && decide (x ≤ T)) := ⟨_, rfl⟩
      obtain ⟨b2, hb2⟩ : ∃ c, c = (decide (0 ≤ y) && decide (y ≤ T)) := ⟨_, rfl⟩
      obtain ⟨b3, hb3⟩ : ∃ c, c = (decide (0 ≤ z) && decide (z ≤ U)) := ⟨_, rfl⟩
      have c1 := fun w => l1In_lab x 0 T w
      have c2 := fun w => l1In_lab y 0 T w
      have c3 := fun w => l1In_lab z 0 U w
      rw [← hb1] at c1
      rw [← hb2] at c2
      rw [← hb3] at c3
      have HB := Lib.hid (And.intro hb1 (And.intro hb2 hb3))
      have HC := Lib.hid (And.intro c1 (And.intro c2 c3))
      clear hp hxyz l0 l1 hx E hb1 hb2 hb3 c1 c2 c3
      cases b1
      · have HF := Lib.hid (isLab_sbad HM.out.2.2.1 HM.out.2.2.2 (by rw [← HM.out.2.1]; exact hlt) (sokAt_arc HP.out.2.1 (.inl HB.out.1.symm)))
        go_wp2
        have E := Ext.alloc wr (.cells #[.int .i64 x, .int .i64 y, .int .i64 z] 36)
        refine wp_region_inv (by kernel_rfl) (.known ?hx8_1_v0 :: .known ?hx8_1_v1 :: .known ?hx8_1_v2 :: .known ?hx8_1_v3 :: .known ?hx8_1_v4 :: .known (.bool false) :: .known ?hx8_1_v6 :: .known ?hx8_1_v7 :: .known ?hx8_1_v8 :: .known ?hx8_1_v9 :: .known ?hx8_1_v10 :: .known ?hx8_1_v11 :: .known ?hx8_1_v12 :: .known ?hx8_1_v13 :: .known ?hx8_1_v14 :: .known ?hx8_1_v15 :: .known ?hx8_1_v16 :: .known ?hx8_1_v17 :: .known ?hx8_1_v18 :: .known ?hx8_1_v19 :: .known ?hx8_1_v20 :: .known ?hx8_1_v21 :: .known ?hx8_1_v22 :: .known ?hx8_1_v23 :: .known ?hx8_1_v24 :: .known ?hx8_1_v25 :: .known ?hx8_1_v26 :: .known ?hx8_1_v27 :: .known ?hx8_1_v28 :: .known ?hx8_1_v29 :: .known ?hx8_1_v30 :: .known ?hx8_1_v31 :: .known ?hx8_1_v32 :: .known ?hx8_1_v33 :: .known ?hx8_1_v34 :: .known ?hx8_1_v35 :: .known ?hx8_1_v36 :: .known ?hx8_1_v37 :: .known ?hx8_1_v38 :: .known ?hx8_1_v39 :: []) rfl (by kernel_rfl) ?hx8_1_s ?hx8_1_p
        case hx8_1_s =>
          intro vs
          refine ⟨fun w' hxw hj => ?_, fun w' hxw hj => ?_, fun w' hxw hj => ?_, fun w' hxw hj => ?_, fun w' hxw hj => ?_, fun w' hxw hj => ?_, fun w' hxw hj => ?_, fun w' hxw hj => ?_, fun w' hxw hj => ?_, fun w' hxw hj => ?_, fun w' hxw hj => ?_, fun w' hxw hj => ?_, fun w' hxw hj => ?_, fun w' hxw hj => ?_, fun w' hxw hj => ?_, fun w' hxw hj => ?_, fun w' hxw hj => ?_, fun w' hxw hj => ?_, fun w' hxw hj => ?_, fun w' hxw hj => ?_, fun w' hxw hj => ?_, fun w' hxw hj => ?_, fun w' hxw hj => ?_, fun w' hxw hj => ?_, fun w' hxw hj => ?_, fun w' hxw hj => ?_, fun w' hxw hj => ?_, fun w' hxw hj => ?_, fun w' hxw hj => ?_, fun w' hxw hj => ?_, fun w' hxw hj => ?_, fun w' hxw hj => ?_, fun w' hxw hj => ?_, fun w' hxw hj => ?_, fun w' hxw hj => ?_, fun w' hxw hj => ?_, fun w' hxw hj => ?_, fun w' hxw hj => ?_, fun w' hxw hj => ?_, fun w' hxw hj => ?_, trivial⟩
          · have l0 := (HZ.out _ hxw).1.1
            have l1 := (HZ.out _ hxw).1.2.1
            have l2 := (HZ.out _ hxw).1.2.2
            have f0 := (HZ.out _ hxw).2.1
            have f1 := (HZ.out _ hxw).2.2.1
            have f2 := (HZ.out _ hxw).2.2.2
            clear hj
            go_simp
            try go_bits
            first | rfl | (rw [if_pos (by omega), if_pos (by omega)]; go_simp; rfl) | (rw [if_pos (by omega)]; go_simp; rfl) | skip
          · have l0 := (HZ.out _ hxw).1.1
            have l1 := (HZ.out _ hxw).1.2.1
            have l2 := (HZ.out _ hxw).1.2.2
            have f0 := (HZ.out _ hxw).2.1
            have f1 := (HZ.out _ hxw).2.2.1
            have f2 := (HZ.out _ hxw).2.2.2
            clear hj
            go_simp
            try go_bits
            first | rfl | (rw [if_pos (by omega), if_pos (by omega)]; go_simp; rfl) | (rw [if_pos (by omega)]; go_simp; rfl) | skip
          · have l0 := (HZ.out _ hxw).1.1
            have l1 := (HZ.out _ hxw).1.2.1
            have l2 := (HZ.out _ hxw).1.2.2
            have f0 := (HZ.out _ hxw).2.1
            have f1 := (HZ.out _ hxw).2.2.1
            have f2 := (HZ.out _ hxw).2.2.2
            clear hj
            go_simp
            try go_bits
            first | rfl | (rw [if_pos (by omega), if_pos (by omega)]; go_simp; rfl) | (rw [if_pos (by omega)]; go_simp; rfl) | skip
          · have l0 := (HZ.out _ hxw).1.1
            have l1 := (HZ.out _ hxw).1.2.1
            have l2 := (HZ.out _ hxw).1.2.2
            have f0 := (HZ.out _ hxw).2.1
            have f1 := (HZ.out _ hxw).2.2.1
            have f2 := (HZ.out _ hxw).2.2.2
            clear hj
            go_simp
            try go_bits
            first | rfl | (rw [if_pos (by omega), if_pos (by omega)]; go_simp; rfl) | (rw [if_pos (by omega)]; go_simp; rfl) | skip
          · have l0 := (HZ.out _ hxw).1.1
            have l1 := (HZ.out _ hxw).1.2.1
            have l2 := (HZ.out _ hxw).1.2.2
            have f0 := (HZ.out _ hxw).2.1
            have f1 := (HZ.out _ hxw).2.2.1
            have f2 := (HZ.out _ hxw).2.2.2
            clear hj
            go_simp
            try go_bits
            first | rfl | (rw [if_pos (by omega), if_pos (by omega)]; go_simp; rfl) | (rw [if_pos (by omega)]; go_simp; rfl) | skip
          · have l0 := (HZ.out _ hxw).1.1
            have l1 := (HZ.out _ hxw).1.2.1
            have l2 := (HZ.out _ hxw).1.2.2
            have f0 := (HZ.out _ hxw).2.1
            have f1 := (HZ.out _ hxw).2.2.1
            have f2 := (HZ.out _ hxw).2.2.2
            clear hj
            go_simp
            try go_bits
            exact (HC.out.1 _).mono fun _ _ ⟨h1, h2⟩ => ⟨h1, h2 ▸ Ext.refl _⟩
          · have l0 := (HZ.out _ hxw).1.1
            have l1 := (HZ.out _ hxw).1.2.1
            have l2 := (HZ.out _ hxw).1.2.2
            have f0 := (HZ.out _ hxw).2.1
            have f1 := (HZ.out _ hxw).2.2.1
            have f2 := (HZ.out _ hxw).2.2.2
            clear hj
            go_simp
            try go_bits
            first | rfl | (rw [if_pos (by omega), if_pos (by omega)]; go_simp; rfl) | (rw [if_pos (by omega)]; go_simp; rfl) | skip
          · have l0 := (HZ.out _ hxw).1.1
            have l1 := (HZ.out _ hxw).1.2.1
            have l2 := (HZ.out _ hxw).1.2.2
            have f0 := (HZ.out _ hxw).2.1
            have f1 := (HZ.out _ hxw).2.2.1
            have f2 := (HZ.out _ hxw).2.2.2
            clear hj
            go_simp
            try go_bits
            first | rfl | (rw [if_pos (by omega), if_pos (by omega)]; go_simp; rfl) | (rw [if_pos (by omega)]; go_simp; rfl) | skip
          · have l0 := (HZ.out _ hxw).1.1
            have l1 := (HZ.out _ hxw).1.2.1
            have l2 := (HZ.out _ hxw).1.2.2
            have f0 := (HZ.out _ hxw).2.1
            have f1 := (HZ.out _ hxw).2.2.1
            have f2 := (HZ.out _ hxw).2.2.2
            clear hj
            go_simp
            try go_bits
            first | rfl | (rw [if_pos (by omega), if_pos (by omega)]; go_simp; rfl) | (rw [if_pos (by omega)]; go_simp; rfl) | skip
          · have l0 := (HZ.out _ hxw).1.1
            have l1 := (HZ.out _ hxw).1.2.1
            have l2 := (HZ.out _ hxw).1.2.2
            have f0 := (HZ.out _ hxw).2.1
            have f1 := (HZ.out _ hxw).2.2.1
            have f2 := (HZ.out _ hxw).2.2.2
            clear hj
            go_simp
            try go_bits
            first | rfl | (rw [if_pos (by omega), if_pos (by omega)]; go_simp; rfl) | (rw [if_pos (by omega)]; go_simp; rfl) | skip
          · have l0 := (HZ.out _ hxw).1.1
            have l1 := (HZ.out _ hxw).1.2.1
            have l2 := (HZ.out _ hxw).1.2.2
            have f0 := (HZ.out _ hxw).2.1
            have f1 := (HZ.out _ hxw).2.2.1
            have f2 := (HZ.out _ hxw).2.2.2
            clear hj
            go_simp
            try go_bits
            first | rfl | (rw [if_pos (by omega), if_pos (by omega)]; go_simp; rfl) | (rw [if_pos (by omega)]; go_simp; rfl) | skip
          · have l0 := (HZ.out _ hxw).1.1
            have l1 := (HZ.out _ hxw).1.2.1
            have l2 := (HZ.out _ hxw).1.2.2
            have f0 := (HZ.out _ hxw).2.1
            have f1 := (HZ.out _ hxw).2.2.1
            have f2 := (HZ.out _ hxw).2.2.2
            clear hj
            go_simp
            try go_bits
            first | rfl | (rw [if_pos (by omega), if_pos (by omega)]; go_simp; rfl) | (rw [if_pos (by omega)]; go_simp; rfl) | skip
          · have l0 := (HZ.out _ hxw).1.1
            have l1 := (HZ.out _ hxw).1.2.1
            have l2 := (HZ.out _ hxw).1.2.2
            have f0 := (HZ.out _ hxw).2.1
            have f1 := (HZ.out _ hxw).2.2.1
            have f2 := (HZ.out _ hxw).2.2.2
            clear hj
            go_simp
            try go_bits
            first | rfl | (rw [if_pos (by omega), if_pos (by omega)]; go_simp; rfl) | (rw [if_pos (by omega)]; go_simp; rfl) | skip
          · have l0 := (HZ.out _ hxw).1.1
            have l1 := (HZ.out _ hxw).1.2.1
            have l2 := (HZ.out _ hxw).1.2.2
            have f0 := (HZ.out _ hxw).2.1
            have f1 := (HZ.out _ hxw).2.2.1
            have f2 := (HZ.out _ hxw).2.2.2
            clear hj
            go_simp
            try go_bits
            first | rfl | (rw [if_pos (by omega), if_pos (by omega)]; go_simp; rfl) | (rw [if_pos (by omega)]; go_simp; rfl) | skip
          · have l0 := (HZ.out _ hxw).1.1
            have l1 := (HZ.out _ hxw).1.2.1
            have l2 := (HZ.out _ hxw).1.2.2
            have f0 := (HZ.out _ hxw).2.1
            have f1 := (HZ.out _ hxw).2.2.1
            have f2 := (HZ.out _ hxw).2.2.2
            clear hj
            go_simp
            try go_bits
            first | rfl | (rw [if_pos (by omega), if_pos (by omega)]; go_simp; rfl) | (rw [if_pos (by omega)]; go_simp; rfl) | skip
          · have l0 := (HZ.out _ hxw).1.1
            have l1 := (HZ.out _ hxw).1.2.1
            have l2 := (HZ.out _ hxw).1.2.2
            have f0 := (HZ.out _ hxw).2.1
            have f1 := (HZ.out _ hxw).2.2.1
            have f2 := (HZ.out _ hxw).2.2.2
            clear hj
            go_simp
            try go_bits
            first | rfl | (rw [if_pos (by omega), if_pos (by omega)]; go_simp; rfl) | (rw [if_pos (by omega)]; go_simp; rfl) | skip
          · have l0 := (HZ.out _ hxw).1.1
            have l1 := (HZ.out _ hxw).1.2.1
            have l2 := (HZ.out _ hxw).1.2.2
            have f0 := (HZ.out _ hxw).2.1
            have f1 := (HZ.out _ hxw).2.2.1
            have f2 := (HZ.out _ hxw).2.2.2
            clear hj
            go_simp
            try go_bits
            first | rfl | (rw [if_pos (by omega), if_pos (by omega)]; go_simp; rfl) | (rw [if_pos (by omega)]; go_simp; rfl) | skip
          · have l0 := (HZ.out _ hxw).1.1
            have l1 := (HZ.out _ hxw).1.2.1
            have l2 := (HZ.out _ hxw).1.2.2
            have f0 := (HZ.out _ hxw).2.1
            have f1 := (HZ.out _ hxw).2.2.1
            have f2 := (HZ.out _ hxw).2.2.2
            clear hj
            go_simp
            try go_bits
            first | rfl | (rw [if_pos (by omega), if_pos (by omega)]; go_simp; rfl) | (rw [if_pos (by omega)]; go_simp; rfl) | skip
          · have l0 := (HZ.out _ hxw).1.1
            have l1 := (HZ.out _ hxw).1.2.1
            have l2 := (HZ.out _ hxw).1.2.2
            have f0 := (HZ.out _ hxw).2.1
            have f1 := (HZ.out _ hxw).2.2.1
            have f2 := (HZ.out _ hxw).2.2.2
            clear hj
            go_simp
            try go_bits
            first | rfl | (rw [if_pos (by omega), if_pos (by omega)]; go_simp; rfl) | (rw [if_pos (by omega)]; go_simp; rfl) | skip
          · have l0 := (HZ.out _ hxw).1.1
            have l1 := (HZ.out _ hxw).1.2.1
            have l2 := (HZ.out _ hxw).1.2.2
            have f0 := (HZ.out _ hxw).2.1
            have f1 := (HZ.out _ hxw).2.2.1
            have f2 := (HZ.out _ hxw).2.2.2
            clear hj
            go_simp
            try go_bits
            first | rfl | (rw [if_pos (by omega), if_pos (by omega)]; go_simp; rfl) | (rw [if_pos (by omega)]; go_simp; rfl) | skip
          · have l0 := (HZ.out _ hxw).1.1
            have l1 := (HZ.out _ hxw).1.2.1
            have l2 := (HZ.out _ hxw).1.2.2
            have f0 := (HZ.out _ hxw).2.1
            have f1 := (HZ.out _ hxw).2.2.1
            have f2 := (HZ.out _ hxw).2.2.2
            clear hj
            go_simp
            try go_bits
            first | rfl | (rw [if_pos (by omega), if_pos (by omega)]; go_simp; rfl) | (rw [if_pos (by omega)]; go_simp; rfl) | skip
          · have l0 := (HZ.out _ hxw).1.1
            have l1 := (HZ.out _ hxw).1.2.1
            have l2 := (HZ.out _ hxw).1.2.2
            have f0 := (HZ.out _ hxw).2.1
            have f1 := (HZ.out _ hxw).2.2.1
            have f2 := (HZ.out _ hxw).2.2.2
            clear hj
            go_simp
            try go_bits
            first | rfl | (rw [if_pos (by omega), if_pos (by omega)]; go_simp; rfl) | (rw [if_pos (by omega)]; go_simp; rfl) | skip
          · have l0 := (HZ.out _ hxw).1.1
            have l1 := (HZ.out _ hxw).1.2.1
            have l2 := (HZ.out _ hxw).1.2.2
            have f0 := (HZ.out _ hxw).2.1
            have f1 := (HZ.out _ hxw).2.2.1
            have f2 := (HZ.out _ hxw).2.2.2
            clear hj
            go_simp
            try go_bits
            first | rfl | (rw [if_pos (by omega), if_pos (by omega)]; go_simp; rfl) | (rw [if_pos (by omega)]; go_simp; rfl) | skip
          · have l0 := (HZ.out _ hxw).1.1
            have l1 := (HZ.out _ hxw).1.2.1
            have l2 := (HZ.out _ hxw).1.2.2
            have f0 := (HZ.out _ hxw).2.1
            have f1 := (HZ.out _ hxw).2.2.1
            have f2 := (HZ.out _ hxw).2.2.2
            clear hj
            go_simp
            try go_bits
            first | rfl | (rw [if_pos (by omega), if_pos (by omega)]; go_simp; rfl) | (rw [if_pos (by omega)]; go_simp; rfl) | skip
          · have l0 := (HZ.out _ hxw).1.1
            have l1 := (HZ.out _ hxw).1.2.1
            have l2 := (HZ.out _ hxw).1.2.2
            have f0 := (HZ.out _ hxw).2.1
            have f1 := (HZ.out _ hxw).2.2.1
            have f2 := (HZ.out _ hxw).2.2.2
            clear hj
            go_simp
            try go_bits
            first | rfl | (rw [if_pos (by omega), if_pos (by omega)]; go_simp; rfl) | (rw [if_pos (by omega)]; go_simp; rfl) | skip
          · have l0 := (HZ.out _ hxw).1.1
            have l1 := (HZ.out _ hxw).1.2.1
            have l2 := (HZ.out _ hxw).1.2.2
            have f0 := (HZ.out _ hxw).2.1
            have f1 := (HZ.out _ hxw).2.2.1
            have f2 := (HZ.out _ hxw).2.2.2
            clear hj
            go_simp
            try go_bits
            first | rfl | (rw [if_pos (by omega), if_pos (by omega)]; go_simp; rfl) | (rw [if_pos (by omega)]; go_simp; rfl) | skip
          · have l0 := (HZ.out _ hxw).1.1
            have l1 := (HZ.out _ hxw).1.2.1
            have l2 := (HZ.out _ hxw).1.2.2
            have f0 := (HZ.out _ hxw).2.1
            have f1 := (HZ.out _ hxw).2.2.1
            have f2 := (HZ.out _ hxw).2.2.2
            clear hj
            go_simp
            try go_bits
            first | rfl | (rw [if_pos (by omega), if_pos (by omega)]; go_simp; rfl) | (rw [if_pos (by omega)]; go_simp; rfl) | skip
          · have l0 := (HZ.out _ hxw).1.1
            have l1 := (HZ.out _ hxw).1.2.1
            have l2 := (HZ.out _ hxw).1.2.2
            have f0 := (HZ.out _ hxw).2.1
            have f1 := (HZ.out _ hxw).2.2.1
            have f2 := (HZ.out _ hxw).2.2.2
            clear hj
            go_simp
            try go_bits
            first | rfl | (rw [if_pos (by omega), if_pos (by omega)]; go_simp; rfl) | (rw [if_pos (by omega)]; go_simp; rfl) | skip
          · have l0 := (HZ.out _ hxw).1.1
            have l1 := (HZ.out _ hxw).1.2.1
            have l2 := (HZ.out _ hxw).1.2.2
            have f0 := (HZ.out _ hxw).2.1
            have f1 := (HZ.out _ hxw).2.2.1
            have f2 := (HZ.out _ hxw).2.2.2
            clear hj
            go_simp
            try go_bits
            first | rfl | (rw [if_pos (by omega), if_pos (by omega)]; go_simp; rfl) | (rw [if_pos (by omega)]; go_simp; rfl) | skip
          · have l0 := (HZ.out _ hxw).1.1
            have l1 := (HZ.out _ hxw).1.2.1
            have l2 := (HZ.out _ hxw).1.2.2
            have f0 := (HZ.out _ hxw).2.1
            have f1 := (HZ.out _ hxw).2.2.1
            have f2 := (HZ.out _ hxw).2.2.2
            clear hj
            go_simp
            try go_bits
            first | rfl | (rw [if_pos (by omega), if_pos (by omega)]; go_simp; rfl) | (rw [if_pos (by omega)]; go_simp; rfl) | skip
          · have l0 := (HZ.out _ hxw).1.1
            have l1 := (HZ.out _ hxw).1.2.1
            have l2 := (HZ.out _ hxw).1.2.2
            have f0 := (HZ.out _ hxw).2.1
            have f1 := (HZ.out _ hxw).2.2.1
            have f2 := (HZ.out _ hxw).2.2.2
            clear hj
            go_simp
            try go_bits
            first | rfl | (rw [if_pos (by omega), if_pos (by omega)]; go_simp; rfl) | (rw [if_pos (by omega)]; go_simp; rfl) | skip
          · have l0 := (HZ.out _ hxw).1.1
            have l1 := (HZ.out _ hxw).1.2.1
            have l2 := (HZ.out _ hxw).1.2.2
            have f0 := (HZ.out _ hxw).2.1
            have f1 := (HZ.out _ hxw).2.2.1
            have f2 := (HZ.out _ hxw).2.2.2
            clear hj
            go_simp
            try go_bits
            first | rfl | (rw [if_pos (by omega), if_pos (by omega)]; go_simp; rfl) | (rw [if_pos (by omega)]; go_simp; rfl) | skip
          · have l0 := (HZ.out _ hxw).1.1
            have l1 := (HZ.out _ hxw).1.2.1
            have l2 := (HZ.out _ hxw).1.2.2
            have f0 := (HZ.out _ hxw).2.1
            have f1 := (HZ.out _ hxw).2.2.1
            have f2 := (HZ.out _ hxw).2.2.2
            clear hj
            go_simp
            try go_bits
            first | rfl | (rw [if_pos (by omega), if_pos (by omega)]; go_simp; rfl) | (rw [if_pos (by omega)]; go_simp; rfl) | skip
          · have l0 := (HZ.out _ hxw).1.1
            have l1 := (HZ.out _ hxw).1.2.1
            have l2 := (HZ.out _ hxw).1.2.2
            have f0 := (HZ.out _ hxw).2.1
            have f1 := (HZ.out _ hxw).2.2.1
            have f2 := (HZ.out _ hxw).2.2.2
            clear hj
            go_simp
            try go_bits
            first | rfl | (rw [if_pos (by omega), if_pos (by omega)]; go_simp; rfl) | (rw [if_pos (by omega)]; go_simp; rfl) | skip
          · have l0 := (HZ.out _ hxw).1.1
            have l1 := (HZ.out _ hxw).1.2.1
            have l2 := (HZ.out _ hxw).1.2.2
            have f0 := (HZ.out _ hxw).2.1
            have f1 := (HZ.out _ hxw).2.2.1
            have f2 := (HZ.out _ hxw).2.2.2
            clear hj
            go_simp
            try go_bits
            first | rfl | (rw [if_pos (by omega), if_pos (by omega)]; go_simp; rfl) | (rw [if_pos (by omega)]; go_simp; rfl) | skip
          · have l0 := (HZ.out _ hxw).1.1
            have l1 := (HZ.out _ hxw).1.2.1
            have l2 := (HZ.out _ hxw).1.2.2
            have f0 := (HZ.out _ hxw).2.1
            have f1 := (HZ.out _ hxw).2.2.1
            have f2 := (HZ.out _ hxw).2.2.2
            clear hj
            go_simp
            try go_bits
            first | rfl | (rw [if_pos (by omega), if_pos (by omega)]; go_simp; rfl) | (rw [if_pos (by omega)]; go_simp; rfl) | skip
          · have l0 := (HZ.out _ hxw).1.1
            have l1 := (HZ.out _ hxw).1.2.1
            have l2 := (HZ.out _ hxw).1.2.2
            have f0 := (HZ.out _ hxw).2.1
            have f1 := (HZ.out _ hxw).2.2.1
            have f2 := (HZ.out _ hxw).2.2.2
            clear hj
            go_simp
            try go_bits
            first | rfl | (rw [if_pos (by omega), if_pos (by omega)]; go_simp; rfl) | (rw [if_pos (by omega)]; go_simp; rfl) | skip
          · have l0 := (HZ.out _ hxw).1.1
            have l1 := (HZ.out _ hxw).1.2.1
            have l2 := (HZ.out _ hxw).1.2.2
            have f0 := (HZ.out _ hxw).2.1
            have f1 := (HZ.out _ hxw).2.2.1
            have f2 := (HZ.out _ hxw).2.2.2
            clear hj
            go_simp
            try go_bits
            first | rfl | (rw [if_pos (by omega), if_pos (by omega)]; go_simp; rfl) | (rw [if_pos (by omega)]; go_simp; rfl) | skip
          · have l0 := (HZ.out _ hxw).1.1
            have l1 := (HZ.out _ hxw).1.2.1
            have l2 := (HZ.out _ hxw).1.2.2
            have f0 := (HZ.out _ hxw).2.1
            have f1 := (HZ.out _ hxw).2.2.1
            have f2 := (HZ.out _ hxw).2.2.2
            clear hj
            go_simp
            try go_bits
            first | rfl | (rw [if_pos (by omega), if_pos (by omega)]; go_simp; rfl) | (rw [if_pos (by omega)]; go_simp; rfl) | skip
          · have l0 := (HZ.out _ hxw).1.1
            have l1 := (HZ.out _ hxw).1.2.1
            have l2 := (HZ.out _ hxw).1.2.2
            have f0 := (HZ.out _ hxw).2.1
            have f1 := (HZ.out _ hxw).2.2.1
            have f2 := (HZ.out _ hxw).2.2.2
            clear hj
            go_simp
            try go_bits
            first | rfl | (rw [if_pos (by omega), if_pos (by omega)]; go_simp; rfl) | (rw [if_pos (by omega)]; go_simp; rfl) | skip
        case' hx8_1_p =>
          intro vs w8 hx8 hk
          clear hk
          replace E := Ext.trans E hx8
          go_simp
          clear hx8
          go_wp2
          go_ret
          exact ⟨lab_bool HF.out.symm, Ext.trans HP.out.2.2.2 E⟩
      cases b2
      · have HF := Lib.hid (isLab_sbad HM.out.2.2.1 HM.out.2.2.2 (by rw [← HM.out.2.1]; exact hlt) (sokAt_arc HP.out.2.1 (.inr (.inl HB.out.2.1.symm))))
        go_wp2
        have E := Ext.alloc wr (.cells #[.int .i64 x, .int .i64 y, .int .i64 z] 36)
        refine wp_region_inv (by kernel_rfl) (.known ?hx8_2_v0 :: .known ?hx8_2_v1 :: .known ?hx8_2_v2 :: .known ?hx8_2_v3 :: .known ?hx8_2_v4 :: .known (.bool true) :: .known ?hx8_2_v6 :: .known ?hx8_2_v7 :: .known ?hx8_2_v8 :: .known ?hx8_2_v9 :: .known ?hx8_2_v10 :: .known ?hx8_2_v11 :: .known ?hx8_2_v12 :: .known (.bool false) :: .known ?hx8_2_v14 :: .known ?hx8_2_v15 :: .known ?hx8_2_v16 :: .known ?hx8_2_v17 :: .known ?hx8_2_v18 :: .known ?hx8_2_v19 :: .known ?hx8_2_v20 :: .known ?hx8_2_v21 :: .known ?hx8_2_v22 :: .known ?hx8_2_v23 :: .known ?hx8_2_v24 :: .known ?hx8_2_v25 :: .known ?hx8_2_v26 :: .known ?hx8_2_v27 :: .known ?hx8_2_v28 :: .known ?hx8_2_v29 :: .known ?hx8_2_v30 :: .known ?hx8_2_v31 :: .known ?hx8_2_v32 :: .known ?hx8_2_v33 :: .known ?hx8_2_v34 :: .known ?hx8_2_v35 :: .known ?hx8_2_v36 :: .known ?hx8_2_v37 :: .known ?hx8_2_v38 :: .known ?hx8_2_v39 :: []) rfl (by kernel_rfl) ?hx8_2_s ?hx8_2_p
        case hx8_2_s =>
          intro vs
          refine ⟨fun w' hxw hj => ?_, fun w' hxw hj => ?_, fun w' hxw hj => ?_, fun w' hxw hj => ?_, fun w' hxw hj => ?_, fun w' hxw hj => ?_, fun w' hxw hj => ?_, fun w' hxw hj => ?_, fun w' hxw hj => ?_, fun w' hxw hj => ?_, fun w' hxw hj => ?_, fun w' hxw hj => ?_, fun w' hxw hj => ?_, fun w' hxw hj => ?_, fun w' hxw hj => ?_, fun w' hxw hj => ?_, fun w' hxw hj => ?_, fun w' hxw hj => ?_, fun w' hxw hj => ?_, fun w' hxw hj => ?_, fun w' hxw hj => ?_, fun w' hxw hj => ?_, fun w' hxw hj => ?_, fun w' hxw hj => ?_, fun w' hxw hj => ?_, fun w' hxw hj => ?_, fun w' hxw hj => ?_, fun w' hxw hj => ?_, fun w' hxw hj => ?_, fun w' hxw hj => ?_, fun w' hxw hj => ?_, fun w' hxw hj => ?_, fun w' hxw hj => ?_, fun w' hxw hj => ?_, fun w' hxw hj => ?_, fun w' hxw hj => ?_, fun w' hxw hj => ?_, fun w' hxw hj => ?_, fun w' hxw hj => ?_, fun w' hxw hj => ?_, trivial⟩
          · have l0 := (HZ.out _ hxw).1.1
            have l1 := (HZ.out _ hxw).1.2.1
            have l2 := (HZ.out _ hxw).1.2.2
            have f0 := (HZ.out _ hxw).2.1
            have f1 := (HZ.out _ hxw).2.2.1
            have f2 := (HZ.out _ hxw).2.2.2
            clear hj
            go_simp
            try go_bits
            first | rfl | (rw [if_pos (by omega), if_pos (by omega)]; go_simp; rfl) | (rw [if_pos (by omega)]; go_simp; rfl) | skip
          · have l0 := (HZ.out _ hxw).1.1
            have l1 := (HZ.out _ hxw).1.2.1
            have l2 := (HZ.out _ hxw).1.2.2
            have f0 := (HZ.out _ hxw).2.1
            have f1 := (HZ.out _ hxw).2.2.1
            have f2 := (HZ.out _ hxw).2.2.2
            clear hj
            go_simp
            try go_bits
            first | rfl | (rw [if_pos (by omega), if_pos (by omega)]; go_simp; rfl) | (rw [if_pos (by omega)]; go_simp; rfl) | skip
          · have l0 := (HZ.out _ hxw).1.1
            have l1 := (HZ.out _ hxw).1.2.1
            have l2 := (HZ.out _ hxw).1.2.2
            have f0 := (HZ.out _ hxw).2.1
            have f1 := (HZ.out _ hxw).2.2.1
            have f2 := (HZ.out _ hxw).2.2.2
            clear hj
            go_simp
            try go_bits
            first | rfl | (rw [if_pos (by omega), if_pos (by omega)]; go_simp; rfl) | (rw [if_pos (by omega)]; go_simp; rfl) | skip
          · have l0 := (HZ.out _ hxw).1.1
            have l1 := (HZ.out _ hxw).1.2.1
            have l2 := (HZ.out _ hxw).1.2.2
            have f0 := (HZ.out _ hxw).2.1
            have f1 := (HZ.out _ hxw).2.2.1
            have f2 := (HZ.out _ hxw).2.2.2
            clear hj
            go_simp
            try go_bits
            first | rfl | (rw [if_pos (by omega), if_pos (by omega)]; go_simp; rfl) | (rw [if_pos (by omega)]; go_simp; rfl) | skip
          · have l0 := (HZ.out _ hxw).1.1
            have l1 := (HZ.out _ hxw).1.2.1
            have l2 := (HZ.out _ hxw).1.2.2
            have f0 := (HZ.out _ hxw).2.1
            have f1 := (HZ.out _ hxw).2.2.1
            have f2 := (HZ.out _ hxw).2.2.2
            clear hj
            go_simp
            try go_bits
            first | rfl | (rw [if_pos (by omega), if_pos (by omega)]; go_simp; rfl) | (rw [if_pos (by omega)]; go_simp; rfl) | skip
          · have l0 := (HZ.out _ hxw).1.1
            have l1 := (HZ.out _ hxw).1.2.1
            have l2 := (HZ.out _ hxw).1.2.2
            have f0 := (HZ.out _ hxw).2.1
            have f1 := (HZ.out _ hxw).2.2.1
            have f2 := (HZ.out _ hxw).2.2.2
            clear hj
            go_simp
            try go_bits
            exact (HC.out.1 _).mono fun _ _ ⟨h1, h2⟩ => ⟨h1, h2 ▸ Ext.refl _⟩
          · have l0 := (HZ.out _ hxw).1.1
            have l1 := (HZ.out _ hxw).1.2.1
            have l2 := (HZ.out _ hxw).1.2.2
            have f0 := (HZ.out _ hxw).2.1
            have f1 := (HZ.out _ hxw).2.2.1
            have f2 := (HZ.out _ hxw).2.2.2
            clear hj
            go_simp
            try go_bits
            first | rfl | (rw [if_pos (by omega), if_pos (by omega)]; go_simp; rfl) | (rw [if_pos (by omega)]; go_simp; rfl) | skip
          · have l0 := (HZ.out _ hxw).1.1
            have l1 := (HZ.out _ hxw).1.2.1
            have l2 := (HZ.out _ hxw).1.2.2
            have f0 := (HZ.out _ hxw).2.1
            have f1 := (HZ.out _ hxw).2.2.1
            have f2 := (HZ.out _ hxw).2.2.2
            clear hj
            go_simp
            try go_bits
            first | rfl | (rw [if_pos (by omega), if_pos (by omega)]; go_simp; rfl) | (rw [if_pos (by omega)]; go_simp; rfl) | skip
          · have l0 := (HZ.out _ hxw).1.1
            have l1 := (HZ.out _ hxw).1.2.1
            have l2 := (HZ.out _ hxw).1.2.2
            have f0 := (HZ.out _ hxw).2.1
            have f1 := (HZ.out _ hxw).2.2.1
            have f2 := (HZ.out _ hxw).2.2.2
            clear hj
            go_simp
            try go_bits
            first | rfl | (rw [if_pos (by omega), if_pos (by omega)]; go_simp; rfl) | (rw [if_pos (by omega)]; go_simp; rfl) | skip
          · have l0 := (HZ.out _ hxw).1.1
            have l1 := (HZ.out _ hxw).1.2.1
            have l2 := (HZ.out _ hxw).1.2.2
            have f0 := (HZ.out _ hxw).2.1
            have f1 := (HZ.out _ hxw).2.2.1
            have f2 := (HZ.out _ hxw).2.2.2
            clear hj
            go_simp
            try go_bits
            first | rfl | (rw [if_pos (by omega), if_pos (by omega)]; go_simp; rfl) | (rw [if_pos (by omega)]; go_simp; rfl) | skip
          · have l0 := (HZ.out _ hxw).1.1
            have l1 := (HZ.out _ hxw).1.2.1
            have l2 := (HZ.out _ hxw).1.2.2
            have f0 := (HZ.out _ hxw).2.1
            have f1 := (HZ.out _ hxw).2.2.1
            have f2 := (HZ.out _ hxw).2.2.2
            clear hj
            go_simp
            try go_bits
            first | rfl | (rw [if_pos (by omega), if_pos (by omega)]; go_simp; rfl) | (rw [if_pos (by omega)]; go_simp; rfl) | skip
          · have l0 := (HZ.out _ hxw).1.1
            have l1 := (HZ.out _ hxw).1.2.1
            have l2 := (HZ.out _ hxw).1.2.2
            have f0 := (HZ.out _ hxw).2.1
            have f1 := (HZ.out _ hxw).2.2.1
            have f2 := (HZ.out _ hxw).2.2.2
            clear hj
            go_simp
            try go_bits
            first | rfl | (rw [if_pos (by omega), if_pos (by omega)]; go_simp; rfl) | (rw [if_pos (by omega)]; go_simp; rfl) | skip
          · have l0 := (HZ.out _ hxw).1.1
            have l1 := (HZ.out _ hxw).1.2.1
            have l2 := (HZ.out _ hxw).1.2.2
            have f0 := (HZ.out _ hxw).2.1
            have f1 := (HZ.out _ hxw).2.2.1
            have f2 := (HZ.out _ hxw).2.2.2
            clear hj
            go_simp
            try go_bits
            first | rfl | (rw [if_pos (by omega), if_pos (by omega)]; go_simp; rfl) | (rw [if_pos (by omega)]; go_simp; rfl) | skip
          · have l0 := (HZ.out _ hxw).1.1
            have l1 := (HZ.out _ hxw).1.2.1
            have l2 := (HZ.out _ hxw).1.2.2
            have f0 := (HZ.out _ hxw).2.1
            have f1 := (HZ.out _ hxw).2.2.1
            have f2 := (HZ.out _ hxw).2.2.2
            clear hj
            go_simp
            try go_bits
            exact (HC.out.2.1 _).mono fun _ _ ⟨h1, h2⟩ => ⟨h1, h2 ▸ Ext.refl _⟩
          · have l0 := (HZ.out _ hxw).1.1
            have l1 := (HZ.out _ hxw).1.2.1
            have l2 := (HZ.out _ hxw).1.2.2
            have f0 := (HZ.out _ hxw).2.1
            have f1 := (HZ.out _ hxw).2.2.1
            have f2 := (HZ.out _ hxw).2.2.2
            clear hj
            go_simp
            try go_bits
            first | rfl | (rw [if_pos (by omega), if_pos (by omega)]; go_simp; rfl) | (rw [if_pos (by omega)]; go_simp; rfl) | skip
          · have l0 := (HZ.out _ hxw).1.1
            have l1 := (HZ.out _ hxw).1.2.1
            have l2 := (HZ.out _ hxw).1.2.2
            have f0 := (HZ.out _ hxw).2.1
            have f1 := (HZ.out _ hxw).2.2.1
            have f2 := (HZ.out _ hxw).2.2.2
            clear hj
            go_simp
            try go_bits
            first | rfl | (rw [if_pos (by omega), if_pos (by omega)]; go_simp; rfl) | (rw [if_pos (by omega)]; go_simp; rfl) | skip
          · have l0 := (HZ.out _ hxw).1.1
            have l1 := (HZ.out _ hxw).1.2.1
            have l2 := (HZ.out _ hxw).1.2.2
            have f0 := (HZ.out _ hxw).2.1
            have f1 := (HZ.out _ hxw).2.2.1
            have f2 := (HZ.out _ hxw).2.2.2
            clear hj
            go_simp
            try go_bits
            first | rfl | (rw [if_pos (by omega), if_pos (by omega)]; go_simp; rfl) | (rw [if_pos (by omega)]; go_simp; rfl) | skip
          · have l0 := (HZ.out _ hxw).1.1
            have l1 := (HZ.out _ hxw).1.2.1
            have l2 := (HZ.out _ hxw).1.2.2
            have f0 := (HZ.out _ hxw).2.1
            have f1 := (HZ.out _ hxw).2.2.1
            have f2 := (HZ.out _ hxw).2.2.2
            clear hj
            go_simp
            try go_bits
            first | rfl | (rw [if_pos (by omega), if_pos (by omega)]; go_simp; rfl) | (rw [if_pos (by omega)]; go_simp; rfl) | skip
          · have l0 := (HZ.out _ hxw).1.1
            have l1 := (HZ.out _ hxw).1.2.1
            have l2 := (HZ.out _ hxw).1.2.2
            have f0 := (HZ.out _ hxw).2.1
            have f1 := (HZ.out _ hxw).2.2.1
            have f2 := (HZ.out _ hxw).2.2.2
            clear hj
            go_simp
            try go_bits
            first | rfl | (rw [if_pos (by omega), if_pos (by omega)]; go_simp; rfl) | (rw [if_pos (by omega)]; go_simp; rfl) | skip
          · have l0 := (HZ.out _ hxw).1.1
            have l1 := (HZ.out _ hxw).1.2.1
            have l2 := (HZ.out _ hxw).1.2.2
            have f0 := (HZ.out _ hxw).2.1
            have f1 := (HZ.out _ hxw).2.2.1
            have f2 := (HZ.out _ hxw).2.2.2
            clear hj
            go_simp
            try go_bits
            first | rfl | (rw [if_pos (by omega), if_pos (by omega)]; go_simp; rfl) | (rw [if_pos (by omega)]; go_simp; rfl) | skip
          · have l0 := (HZ.out _ hxw).1.1
            have l1 := (HZ.out _ hxw).1.2.1
            have l2 := (HZ.out _ hxw).1.2.2
            have f0 := (HZ.out _ hxw).2.1
            have f1 := (HZ.out _ hxw).2.2.1
            have f2 := (HZ.out _ hxw).2.2.2
            clear hj
            go_simp
            try go_bits
            first | rfl | (rw [if_pos (by omega), if_pos (by omega)]; go_simp; rfl) | (rw [if_pos (by omega)]; go_simp; rfl) | skip
          · have l0 := (HZ.out _ hxw).1.1
            have l1 := (HZ.out _ hxw).1.2.1
            have l2 := (HZ.out _ hxw).1.2.2
            have f0 := (HZ.out _ hxw).2.1
            have f1 := (HZ.out _ hxw).2.2.1
            have f2 := (HZ.out _ hxw).2.2.2
            clear hj
            go_simp
            try go_bits
            first | rfl | (rw [if_pos (by omega), if_pos (by omega)]; go_simp; rfl) | (rw [if_pos (by omega)]; go_simp; rfl) | skip
          · have l0 := (HZ.out _ hxw).1.1
            have l1 := (HZ.out _ hxw).1.2.1
            have l2 := (HZ.out _ hxw).1.2.2
            have f0 := (HZ.out _ hxw).2.1
            have f1 := (HZ.out _ hxw).2.2.1
            have f2 := (HZ.out _ hxw).2.2.2
            clear hj
            go_simp
            try go_bits
            first | rfl | (rw [if_pos (by omega), if_pos (by omega)]; go_simp; rfl) | (rw [if_pos (by omega)]; go_simp; rfl) | skip
          · have l0 := (HZ.out _ hxw).1.1
            have l1 := (HZ.out _ hxw).1.2.1
            have l2 := (HZ.out _ hxw).1.2.2
            have f0 := (HZ.out _ hxw).2.1
            have f1 := (HZ.out _ hxw).2.2.1
            have f2 := (HZ.out _ hxw).2.2.2
            clear hj
            go_simp
            try go_bits
            first | rfl | (rw [if_pos (by omega), if_pos (by omega)]; go_simp; rfl) | (rw [if_pos (by omega)]; go_simp; rfl) | skip
          · have l0 := (HZ.out _ hxw).1.1
            have l1 := (HZ.out _ hxw).1.2.1
            have l2 := (HZ.out _ hxw).1.2.2
            have f0 := (HZ.out _ hxw).2.1
            have f1 := (HZ.out _ hxw).2.2.1
            have f2 := (HZ.out _ hxw).2.2.2
            clear hj
            go_simp
            try go_bits
            first | rfl | (rw [if_pos (by omega), if_pos (by omega)]; go_simp; rfl) | (rw [if_pos (by omega)]; go_simp; rfl) | skip
          · have l0 := (HZ.out _ hxw).1.1
            have l1 := (HZ.out _ hxw).1.2.1
            have l2 := (HZ.out _ hxw).1.2.2
            have f0 := (HZ.out _ hxw).2.1
            have f1 := (HZ.out _ hxw).2.2.1
            have f2 := (HZ.out _ hxw).2.2.2
            clear hj
            go_simp
            try go_bits
            first | rfl | (rw [if_pos (by omega), if_pos (by omega)]; go_simp; rfl) | (rw [if_pos (by omega)]; go_simp; rfl) | skip
          · have l0 := (HZ.out _ hxw).1.1
            have l1 := (HZ.out _ hxw).1.2.1
            have l2 := (HZ.out _ hxw).1.2.2
            have f0 := (HZ.out _ hxw).2.1
            have f1 := (HZ.out _ hxw).2.2.1
            have f2 := (HZ.out _ hxw).2.2.2
            clear hj
            go_simp
            try go_bits
            first | rfl | (rw [if_pos (by omega), if_pos (by omega)]; go_simp; rfl) | (rw [if_pos (by omega)]; go_simp; rfl) | skip
          · have l0 := (HZ.out _ hxw).1.1
            have l1 := (HZ.out _ hxw).1.2.1
            have l2 := (HZ.out _ hxw).1.2.2
            have f0 := (HZ.out _ hxw).2.1
            have f1 := (HZ.out _ hxw).2.2.1
            have f2 := (HZ.out _ hxw).2.2.2
            clear hj
            go_simp
            try go_bits
            first | rfl | (rw [if_pos (by omega), if_pos (by omega)]; go_simp; rfl) | (rw [if_pos (by omega)]; go_simp; rfl) | skip
          · have l0 := (HZ.out _ hxw).1.1
            have l1 := (HZ.out _ hxw).1.2.1
            have l2 := (HZ.out _ hxw).1.2.2
            have f0 := (HZ.out _ hxw).2.1
            have f1 := (HZ.out _ hxw).2.2.1
            have f2 := (HZ.out _ hxw).2.2.2
            clear hj
            go_simp
            try go_bits
            first | rfl | (rw [if_pos (by omega), if_pos (by omega)]; go_simp; rfl) | (rw [if_pos (by omega)]; go_simp; rfl) | skip
          · have l0 := (HZ.out _ hxw).1.1
            have l1 := (HZ.out _ hxw).1.2.1
            have l2 := (HZ.out _ hxw).1.2.2
            have f0 := (HZ.out _ hxw).2.1
            have f1 := (HZ.out _ hxw).2.2.1
            have f2 := (HZ.out _ hxw).2.2.2
            clear hj
            go_simp
            try go_bits
            first | rfl | (rw [if_pos (by omega), if_pos (by omega)]; go_simp; rfl) | (rw [if_pos (by omega)]; go_simp; rfl) | skip
          · have l0 := (HZ.out _ hxw).1.1
            have l1 := (HZ.out _ hxw).1.2.1
            have l2 := (HZ.out _ hxw).1.2.2
            have f0 := (HZ.out _ hxw).2.1
            have f1 := (HZ.out _ hxw).2.2.1
            have f2 := (HZ.out _ hxw).2.2.2
            clear hj
            go_simp
            try go_bits
            first | rfl | (rw [if_pos (by omega), if_pos (by omega)]; go_simp; rfl) | (rw [if_pos (by omega)]; go_simp; rfl) | skip
          · have l0 := (HZ.out _ hxw).1.1
            have l1 := (HZ.out _ hxw).1.2.1
            have l2 := (HZ.out _ hxw).1.2.2
            have f0 := (HZ.out _ hxw).2.1
            have f1 := (HZ.out _ hxw).2.2.1
            have f2 := (HZ.out _ hxw).2.2.2
            clear hj
            go_simp
            try go_bits
            first | rfl | (rw [if_pos (by omega), if_pos (by omega)]; go_simp; rfl) | (rw [if_pos (by omega)]; go_simp; rfl) | skip
          · have l0 := (HZ.out _ hxw).1.1
            have l1 := (HZ.out _ hxw).1.2.1
            have l2 := (HZ.out _ hxw).1.2.2
            have f0 := (HZ.out _ hxw).2.1
            have f1 := (HZ.out _ hxw).2.2.1
            have f2 := (HZ.out _ hxw).2.2.2
            clear hj
            go_simp
            try go_bits
            first | rfl | (rw [if_pos (by omega), if_pos (by omega)]; go_simp; rfl) | (rw [if_pos (by omega)]; go_simp; rfl) | skip
          · have l0 := (HZ.out _ hxw).1.1
            have l1 := (HZ.out _ hxw).1.2.1
            have l2 := (HZ.out _ hxw).1.2.2
            have f0 := (HZ.out _ hxw).2.1
            have f1 := (HZ.out _ hxw).2.2.1
            have f2 := (HZ.out _ hxw).2.2.2
            clear hj
            go_simp
            try go_bits
            first | rfl | (rw [if_pos (by omega), if_pos (by omega)]; go_simp; rfl) | (rw [if_pos (by omega)]; go_simp; rfl) | skip
          · have l0 := (HZ.out _ hxw).1.1
            have l1 := (HZ.out _ hxw).1.2.1
            have l2 := (HZ.out _ hxw).1.2.2
            have f0 := (HZ.out _ hxw).2.1
            have f1 := (HZ.out _ hxw).2.2.1
            have f2 := (HZ.out _ hxw).2.2.2
            clear hj
            go_simp
            try go_bits
            first | rfl | (rw [if_pos (by omega), if_pos (by omega)]; go_simp; rfl) | (rw [if_pos (by omega)]; go_simp; rfl) | skip
          · have l0 := (HZ.out _ hxw).1.1
            have l1 := (HZ.out _ hxw).1.2.1
            have l2 := (HZ.out _ hxw).1.2.2
            have f0 := (HZ.out _ hxw).2.1
            have f1 := (HZ.out _ hxw).2.2.1
            have f2 := (HZ.out _ hxw).2.2.2
            clear hj
            go_simp
            try go_bits
            first | rfl | (rw [if_pos (by omega), if_pos (by omega)]; go_simp; rfl) | (rw [if_pos (by omega)]; go_simp; rfl) | skip
          · have l0 := (HZ.out _ hxw).1.1
            have l1 := (HZ.out _ hxw).1.2.1
            have l2 := (HZ.out _ hxw).1.2.2
            have f0 := (HZ.out _ hxw).2.1
            have f1 := (HZ.out _ hxw).2.2.1
            have f2 := (HZ.out _ hxw).2.2.2
            clear hj
            go_simp
            try go_bits
            first | rfl | (rw [if_pos (by omega), if_pos (by omega)]; go_simp; rfl) | (rw [if_pos (by omega)]; go_simp; rfl) | skip
          · have l0 := (HZ.out _ hxw).1.1
            have l1 := (HZ.out _ hxw).1.2.1
            have l2 := (HZ.out _ hxw).1.2.2
            have f0 := (HZ.out _ hxw).2.1
            have f1 := (HZ.out _ hxw).2.2.1
            have f2 := (HZ.out _ hxw).2.2.2
            clear hj
            go_simp
            try go_bits
            first | rfl | (rw [if_pos (by omega), if_pos (by omega)]; go_simp; rfl) | (rw [if_pos (by omega)]; go_simp; rfl) | skip
          · have l0 := (HZ.out _ hxw).1.1
            have l1 := (HZ.out _ hxw).1.2.1
            have l2 := (HZ.out _ hxw).1.2.2
            have f0 := (HZ.out _ hxw).2.1
            have f1 := (HZ.out _ hxw).2.2.1
            have f2 := (HZ.out _ hxw).2.2.2
            clear hj
            go_simp
            try go_bits
            first | rfl | (rw [if_pos (by omega), if_pos (by omega)]; go_simp; rfl) | (rw [if_pos (by omega)]; go_simp; rfl) | skip
          · have l0 := (HZ.out _ hxw).1.1
            have l1 := (HZ.out _ hxw).1.2.1
            have l2 := (HZ.out _ hxw).1.2.2
            have f0 := (HZ.out _ hxw).2.1
            have f1 := (HZ.out _ hxw).2.2.1
            have f2 := (HZ.out _ hxw).2.2.2
            clear hj
            go_simp
            try go_bits
            first | rfl | (rw [if_pos (by omega), if_pos (by omega)]; go_simp; rfl) | (rw [if_pos (by omega)]; go_simp; rfl) | skip
        case' hx8_2_p =>
          intro vs w8 hx8 hk
          clear hk
          replace E := Ext.trans E hx8
          go_simp
          clear hx8
          go_wp2
          go_ret
          exact ⟨lab_bool HF.out.symm, Ext.trans HP.out.2.2.2 E⟩
      cases b3
      · have HF := Lib.hid (isLab_sbad HM.out.2.2.1 HM.out.2.2.2 (by rw [← HM.out.2.1]; exact hlt) (sokAt_arc HP.out.2.1 (.inr (.inr HB.out.2.2.symm))))
        go_wp2
        have E := Ext.alloc wr (.cells #[.int .i64 x, .int .i64 y, .int .i64 z] 36)
        refine wp_region_inv (by kernel_rfl) (.known ?hx8_3_v0 :: .known ?hx8_3_v1 :: .known ?hx8_3_v2 :: .known ?hx8_3_v3 :: .known ?hx8_3_v4 :: .known (.bool true) :: .known ?hx8_3_v6 :: .known ?hx8_3_v7 :: .known ?hx8_3_v8 :: .known ?hx8_3_v9 :: .known ?hx8_3_v10 :: .known ?hx8_3_v11 :: .known ?hx8_3_v12 :: .known (.bool true) :: .known ?hx8_3_v14 :: .known ?hx8_3_v15 :: .known ?hx8_3_v16 :: .known ?hx8_3_v17 :: .known ?hx8_3_v18 :: .known ?hx8_3_v19 :: .known ?hx8_3_v20 :: .known ?hx8_3_v21 :: .known (.bool false) :: .known ?hx8_3_v23 :: .known ?hx8_3_v24 :: .known ?hx8_3_v25 :: .known ?hx8_3_v26 :: .known ?hx8_3_v27 :: .known ?hx8_3_v28 :: .known ?hx8_3_v29 :: .known ?hx8_3_v30 :: .known ?hx8_3_v31 :: .known ?hx8_3_v32 :: .known ?hx8_3_v33 :: .known ?hx8_3_v34 :: .known ?hx8_3_v35 :: .known ?hx8_3_v36 :: .known ?hx8_3_v37 :: .known ?hx8_3_v38 :: .known ?hx8_3_v39 :: []) rfl (by kernel_rfl) ?hx8_3_s ?hx8_3_p
        case hx8_3_s =>
          intro vs
          refine ⟨fun w' hxw hj => ?_, fun w' hxw hj => ?_, fun w' hxw hj => ?_, fun w' hxw hj => ?_, fun w' hxw hj => ?_, fun w' hxw hj => ?_, fun w' hxw hj => ?_, fun w' hxw hj => ?_, fun w' hxw hj => ?_, fun w' hxw hj => ?_, fun w' hxw hj => ?_, fun w' hxw hj => ?_, fun w' hxw hj => ?_, fun w' hxw hj => ?_, fun w' hxw hj => ?_, fun w' hxw hj => ?_, fun w' hxw hj => ?_, fun w' hxw hj => ?_, fun w' hxw hj => ?_, fun w' hxw hj => ?_, fun w' hxw hj => ?_, fun w' hxw hj => ?_, fun w' hxw hj => ?_, fun w' hxw hj => ?_, fun w' hxw hj => ?_, fun w' hxw hj => ?_, fun w' hxw hj => ?_, fun w' hxw hj => ?_, fun w' hxw hj => ?_, fun w' hxw hj => ?_, fun w' hxw hj => ?_, fun w' hxw hj => ?_, fun w' hxw hj => ?_, fun w' hxw hj => ?_, fun w' hxw hj => ?_, fun w' hxw hj => ?_, fun w' hxw hj => ?_, fun w' hxw hj => ?_, fun w' hxw hj => ?_, fun w' hxw hj => ?_, trivial⟩
          · have l0 := (HZ.out _ hxw).1.1
            have l1 := (HZ.out _ hxw).1.2.1
            have l2 := (HZ.out _ hxw).1.2.2
            have f0 := (HZ.out _ hxw).2.1
            have f1 := (HZ.out _ hxw).2.2.1
            have f2 := (HZ.out _ hxw).2.2.2
            clear hj
            go_simp
            try go_bits
            first | rfl | (rw [if_pos (by omega), if_pos (by omega)]; go_simp; rfl) | (rw [if_pos (by omega)]; go_simp; rfl) | skip
          · have l0 := (HZ.out _ hxw).1.1
            have l1 := (HZ.out _ hxw).1.2.1
            have l2 := (HZ.out _ hxw).1.2.2
            have f0 := (HZ.out _ hxw).2.1
            have f1 := (HZ.out _ hxw).2.2.1
            have f2 := (HZ.out _ hxw).2.2.2
            clear hj
            go_simp
            try go_bits
            first | rfl | (rw [if_pos (by omega), if_pos (by omega)]; go_simp; rfl) | (rw [if_pos (by omega)]; go_simp; rfl) | skip
          · have l0 := (HZ.out _ hxw).1.1
            have l1 := (HZ.out _ hxw).1.2.1
            have l2 := (HZ.out _ hxw).1.2.2
            have f0 := (HZ.out _ hxw).2.1
            have f1 := (HZ.out _ hxw).2.2.1
            have f2 := (HZ.out _ hxw).2.2.2
            clear hj
            go_simp
            try go_bits
            first | rfl | (rw [if_pos (by omega), if_pos (by omega)]; go_simp; rfl) | (rw [if_pos (by omega)]; go_simp; rfl) | skip
          · have l0 := (HZ.out _ hxw).1.1
            have l1 := (HZ.out _ hxw).1.2.1
            have l2 := (HZ.out _ hxw).1.2.2
            have f0 := (HZ.out _ hxw).2.1
            have f1 := (HZ.out _ hxw).2.2.1
            have f2 := (HZ.out _ hxw).2.2.2
            clear hj
            go_simp
            try go_bits
            first | rfl | (rw [if_pos (by omega), if_pos (by omega)]; go_simp; rfl) | (rw [if_pos (by omega)]; go_simp; rfl) | skip
          · have l0 := (HZ.out _ hxw).1.1
            have l1 := (HZ.out _ hxw).1.2.1
            have l2 := (HZ.out _ hxw).1.2.2
            have f0 := (HZ.out _ hxw).2.1
            have f1 := (HZ.out _ hxw).2.2.1
            have f2 := (HZ.out _ hxw).2.2.2
            clear hj
            go_simp
            try go_bits
            first | rfl | (rw [if_pos (by omega), if_pos (by omega)]; go_simp; rfl) | (rw [if_pos (by omega)]; go_simp; rfl) | skip
          · have l0 := (HZ.out _ hxw).1.1
            have l1 := (HZ.out _ hxw).1.2.1
            have l2 := (HZ.out _ hxw).1.2.2
            have f0 := (HZ.out _ hxw).2.1
            have f1 := (HZ.out _ hxw).2.2.1
            have f2 := (HZ.out _ hxw).2.2.2
            clear hj
            go_simp
            try go_bits
            exact (HC.out.1 _).mono fun _ _ ⟨h1, h2⟩ => ⟨h1, h2 ▸ Ext.refl _⟩
          · have l0 := (HZ.out _ hxw).1.1
            have l1 := (HZ.out _ hxw).1.2.1
            have l2 := (HZ.out _ hxw).1.2.2
            have f0 := (HZ.out _ hxw).2.1
            have f1 := (HZ.out _ hxw).2.2.1
            have f2 := (HZ.out _ hxw).2.2.2
            clear hj
            go_simp
            try go_bits
            first | rfl | (rw [if_pos (by omega), if_pos (by omega)]; go_simp; rfl) | (rw [if_pos (by omega)]; go_simp; rfl) | skip
          · have l0 := (HZ.out _ hxw).1.1
            have l1 := (HZ.out _ hxw).1.2.1
            have l2 := (HZ.out _ hxw).1.2.2
            have f0 := (HZ.out _ hxw).2.1
            have f1 := (HZ.out _ hxw).2.2.1
            have f2 := (HZ.out _ hxw).2.2.2
            clear hj
            go_simp
            try go_bits
            first | rfl | (rw [if_pos (by omega), if_pos (by omega)]; go_simp; rfl) | (rw [if_pos (by omega)]; go_simp; rfl) | skip
          · have l0 := (HZ.out _ hxw).1.1
            have l1 := (HZ.out _ hxw).1.2.1
            have l2 := (HZ.out _ hxw).1.2.2
            have f0 := (HZ.out _ hxw).2.1
            have f1 := (HZ.out _ hxw).2.2.1
            have f2 := (HZ.out _ hxw).2.2.2
            clear hj
            go_simp
            try go_bits
            first | rfl | (rw [if_pos (by omega), if_pos (by omega)]; go_simp; rfl) | (rw [if_pos (by omega)]; go_simp; rfl) | skip
          · have l0 := (HZ.out _ hxw).1.1
            have l1 := (HZ.out _ hxw).1.2.1
            have l2 := (HZ.out _ hxw).1.2.2
            have f0 := (HZ.out _ hxw).2.1
            have f1 := (HZ.out _ hxw).2.2.1
            have f2 := (HZ.out _ hxw).2.2.2
            clear hj
            go_simp
            try go_bits
            first | rfl | (rw [if_pos (by omega), if_pos (by omega)]; go_simp; rfl) | (rw [if_pos (by omega)]; go_simp; rfl) | skip
          · have l0 := (HZ.out _ hxw).1.1
            have l1 := (HZ.out _ hxw).1.2.1
            have l2 := (HZ.out _ hxw).1.2.2
            have f0 := (HZ.out _ hxw).2.1
            have f1 := (HZ.out _ hxw).2.2.1
            have f2 := (HZ.out _ hxw).2.2.2
            clear hj
            go_simp
            try go_bits
            first | rfl | (rw [if_pos (by omega), if_pos (by omega)]; go_simp; rfl) | (rw [if_pos (by omega)]; go_simp; rfl) | skip
          · have l0 := (HZ.out _ hxw).1.1
            have l1 := (HZ.out _ hxw).1.2.1
            have l2 := (HZ.out _ hxw).1.2.2
            have f0 := (HZ.out _ hxw).2.1
            have f1 := (HZ.out _ hxw).2.2.1
            have f2 := (HZ.out _ hxw).2.2.2
            clear hj
            go_simp
            try go_bits
            first | rfl | (rw [if_pos (by omega), if_pos (by omega)]; go_simp; rfl) | (rw [if_pos (by omega)]; go_simp; rfl) | skip
          · have l0 := (HZ.out _ hxw).1.1
            have l1 := (HZ.out _ hxw).1.2.1
            have l2 := (HZ.out _ hxw).1.2.2
            have f0 := (HZ.out _ hxw).2.1
            have f1 := (HZ.out _ hxw).2.2.1
            have f2 := (HZ.out _ hxw).2.2.2
            clear hj
            go_simp
            try go_bits
            first | rfl | (rw [if_pos (by omega), if_pos (by omega)]; go_simp; rfl) | (rw [if_pos (by omega)]; go_simp; rfl) | skip
          · have l0 := (HZ.out _ hxw).1.1
            have l1 := (HZ.out _ hxw).1.2.1
            have l2 := (HZ.out _ hxw).1.2.2
            have f0 := (HZ.out _ hxw).2.1
            have f1 := (HZ.out _ hxw).2.2.1
            have f2 := (HZ.out _ hxw).2.2.2
            clear hj
            go_simp
            try go_bits
            exact (HC.out.2.1 _).mono fun _ _ ⟨h1, h2⟩ => ⟨h1, h2 ▸ Ext.refl _⟩
          · have l0 := (HZ.out _ hxw).1.1
            have l1 := (HZ.out _ hxw).1.2.1
            have l2 := (HZ.out _ hxw).1.2.2
            have f0 := (HZ.out _ hxw).2.1
            have f1 := (HZ.out _ hxw).2.2.1
            have f2 := (HZ.out _ hxw).2.2.2
            clear hj
            go_simp
            try go_bits
            first | rfl | (rw [if_pos (by omega), if_pos (by omega)]; go_simp; rfl) | (rw [if_pos (by omega)]; go_simp; rfl) | skip
          · have l0 := (HZ.out _ hxw).1.1
            have l1 := (HZ.out _ hxw).1.2.1
            have l2 := (HZ.out _ hxw).1.2.2
            have f0 := (HZ.out _ hxw).2.1
            have f1 := (HZ.out _ hxw).2.2.1
            have f2 := (HZ.out _ hxw).2.2.2
            clear hj
            go_simp
            try go_bits
            first | rfl | (rw [if_pos (by omega), if_pos (by omega)]; go_simp; rfl) | (rw [if_pos (by omega)]; go_simp; rfl) | skip
          · have l0 := (HZ.out _ hxw).1.1
            have l1 := (HZ.out _ hxw).1.2.1
            have l2 := (HZ.out _ hxw).1.2.2
            have f0 := (HZ.out _ hxw).2.1
            have f1 := (HZ.out _ hxw).2.2.1
            have f2 := (HZ.out _ hxw).2.2.2
            clear hj
            go_simp
            try go_bits
            first | rfl | (rw [if_pos (by omega), if_pos (by omega)]; go_simp; rfl) | (rw [if_pos (by omega)]; go_simp; rfl) | skip
          · have l0 := (HZ.out _ hxw).1.1
            have l1 := (HZ.out _ hxw).1.2.1
            have l2 := (HZ.out _ hxw).1.2.2
            have f0 := (HZ.out _ hxw).2.1
            have f1 := (HZ.out _ hxw).2.2.1
            have f2 := (HZ.out _ hxw).2.2.2
            clear hj
            go_simp
            try go_bits
            first | rfl | (rw [if_pos (by omega), if_pos (by omega)]; go_simp; rfl) | (rw [if_pos (by omega)]; go_simp; rfl) | skip
          · have l0 := (HZ.out _ hxw).1.1
            have l1 := (HZ.out _ hxw).1.2.1
            have l2 := (HZ.out _ hxw).1.2.2
            have f0 := (HZ.out _ hxw).2.1
            have f1 := (HZ.out _ hxw).2.2.1
            have f2 := (HZ.out _ hxw).2.2.2
            clear hj
            go_simp
            try go_bits
            first | rfl | (rw [if_pos (by omega), if_pos (by omega)]; go_simp; rfl) | (rw [if_pos (by omega)]; go_simp; rfl) | skip
          · have l0 := (HZ.out _ hxw).1.1
            have l1 := (HZ.out _ hxw).1.2.1
            have l2 := (HZ.out _ hxw).1.2.2
            have f0 := (HZ.out _ hxw).2.1
            have f1 := (HZ.out _ hxw).2.2.1
            have f2 := (HZ.out _ hxw).2.2.2
            clear hj
            go_simp
            try go_bits
            first | rfl | (rw [if_pos (by omega), if_pos (by omega)]; go_simp; rfl) | (rw [if_pos (by omega)]; go_simp; rfl) | skip
          · have l0 := (HZ.out _ hxw).1.1
            have l1 := (HZ.out _ hxw).1.2.1
            have l2 := (HZ.out _ hxw).1.2.2
            have f0 := (HZ.out _ hxw).2.1
            have f1 := (HZ.out _ hxw).2.2.1
            have f2 := (HZ.out _ hxw).2.2.2
            clear hj
            go_simp
            try go_bits
            first | rfl | (rw [if_pos (by omega), if_pos (by omega)]; go_simp; rfl) | (rw [if_pos (by omega)]; go_simp; rfl) | skip
          · have l0 := (HZ.out _ hxw).1.1
            have l1 := (HZ.out _ hxw).1.2.1
            have l2 := (HZ.out _ hxw).1.2.2
            have f0 := (HZ.out _ hxw).2.1
            have f1 := (HZ.out _ hxw).2.2.1
            have f2 := (HZ.out _ hxw).2.2.2
            clear hj
            go_simp
            try go_bits
            first | rfl | (rw [if_pos (by omega), if_pos (by omega)]; go_simp; rfl) | (rw [if_pos (by omega)]; go_simp; rfl) | skip
          · have l0 := (HZ.out _ hxw).1.1
            have l1 := (HZ.out _ hxw).1.2.1
            have l2 := (HZ.out _ hxw).1.2.2
            have f0 := (HZ.out _ hxw).2.1
            have f1 := (HZ.out _ hxw).2.2.1
            have f2 := (HZ.out _ hxw).2.2.2
            clear hj
            go_simp
            try go_bits
            exact (HC.out.2.2 _).mono fun _ _ ⟨h1, h2⟩ => ⟨h1, h2 ▸ Ext.refl _⟩
          · have l0 := (HZ.out _ hxw).1.1
            have l1 := (HZ.out _ hxw).1.2.1
            have l2 := (HZ.out _ hxw).1.2.2
            have f0 := (HZ.out _ hxw).2.1
            have f1 := (HZ.out _ hxw).2.2.1
            have f2 := (HZ.out _ hxw).2.2.2
            clear hj
            go_simp
            try go_bits
            first | rfl | (rw [if_pos (by omega), if_pos (by omega)]; go_simp; rfl) | (rw [if_pos (by omega)]; go_simp; rfl) | skip
          · have l0 := (HZ.out _ hxw).1.1
            have l1 := (HZ.out _ hxw).1.2.1
            have l2 := (HZ.out _ hxw).1.2.2
            have f0 := (HZ.out _ hxw).2.1
            have f1 := (HZ.out _ hxw).2.2.1
            have f2 := (HZ.out _ hxw).2.2.2
            clear hj
            go_simp
            try go_bits
            first | rfl | (rw [if_pos (by omega), if_pos (by omega)]; go_simp; rfl) | (rw [if_pos (by omega)]; go_simp; rfl) | skip
          · have l0 := (HZ.out _ hxw).1.1
            have l1 := (HZ.out _ hxw).1.2.1
            have l2 := (HZ.out _ hxw).1.2.2
            have f0 := (HZ.out _ hxw).2.1
            have f1 := (HZ.out _ hxw).2.2.1
            have f2 := (HZ.out _ hxw).2.2.2
            clear hj
            go_simp
            try go_bits
            first | rfl | (rw [if_pos (by omega), if_pos (by omega)]; go_simp; rfl) | (rw [if_pos (by omega)]; go_simp; rfl) | skip
          · have l0 := (HZ.out _ hxw).1.1
            have l1 := (HZ.out _ hxw).1.2.1
            have l2 := (HZ.out _ hxw).1.2.2
            have f0 := (HZ.out _ hxw).2.1
            have f1 := (HZ.out _ hxw).2.2.1
            have f2 := (HZ.out _ hxw).2.2.2
            clear hj
            go_simp
            try go_bits
            first | rfl | (rw [if_pos (by omega), if_pos (by omega)]; go_simp; rfl) | (rw [if_pos (by omega)]; go_simp; rfl) | skip
          · have l0 := (HZ.out _ hxw).1.1
            have l1 := (HZ.out _ hxw).1.2.1
            have l2 := (HZ.out _ hxw).1.2.2
            have f0 := (HZ.out _ hxw).2.1
            have f1 := (HZ.out _ hxw).2.2.1
            have f2 := (HZ.out _ hxw).2.2.2
            clear hj
            go_simp
            try go_bits
            first | rfl | (rw [if_pos (by omega), if_pos (by omega)]; go_simp; rfl) | (rw [if_pos (by omega)]; go_simp; rfl) | skip
          · have l0 := (HZ.out _ hxw).1.1
            have l1 := (HZ.out _ hxw).1.2.1
            have l2 := (HZ.out _ hxw).1.2.2
            have f0 := (HZ.out _ hxw).2.1
            have f1 := (HZ.out _ hxw).2.2.1
            have f2 := (HZ.out _ hxw).2.2.2
            clear hj
            go_simp
            try go_bits
            first | rfl | (rw [if_pos (by omega), if_pos (by omega)]; go_simp; rfl) | (rw [if_pos (by omega)]; go_simp; rfl) | skip
          · have l0 := (HZ.out _ hxw).1.1
            have l1 := (HZ.out _ hxw).1.2.1
            have l2 := (HZ.out _ hxw).1.2.2
            have f0 := (HZ.out _ hxw).2.1
            have f1 := (HZ.out _ hxw).2.2.1
            have f2 := (HZ.out _ hxw).2.2.2
            clear hj
            go_simp
            try go_bits
            first | rfl | (rw [if_pos (by omega), if_pos (by omega)]; go_simp; rfl) | (rw [if_pos (by omega)]; go_simp; rfl) | skip
          · have l0 := (HZ.out _ hxw).1.1
            have l1 := (HZ.out _ hxw).1.2.1
            have l2 := (HZ.out _ hxw).1.2.2
            have f0 := (HZ.out _ hxw).2.1
            have f1 := (HZ.out _ hxw).2.2.1
            have f2 := (HZ.out _ hxw).2.2.2
            clear hj
            go_simp
            try go_bits
            first | rfl | (rw [if_pos (by omega), if_pos (by omega)]; go_simp; rfl) | (rw [if_pos (by omega)]; go_simp; rfl) | skip
          · have l0 := (HZ.out _ hxw).1.1
            have l1 := (HZ.out _ hxw).1.2.1
            have l2 := (HZ.out _ hxw).1.2.2
            have f0 := (HZ.out _ hxw).2.1
            have f1 := (HZ.out _ hxw).2.2.1
            have f2 := (HZ.out _ hxw).2.2.2
            clear hj
            go_simp
            try go_bits
            first | rfl | (rw [if_pos (by omega), if_pos (by omega)]; go_simp; rfl) | (rw [if_pos (by omega)]; go_simp; rfl) | skip
          · have l0 := (HZ.out _ hxw).1.1
            have l1 := (HZ.out _ hxw).1.2.1
            have l2 := (HZ.out _ hxw).1.2.2
            have f0 := (HZ.out _ hxw).2.1
            have f1 := (HZ.out _ hxw).2.2.1
            have f2 := (HZ.out _ hxw).2.2.2
            clear hj
            go_simp
            try go_bits
            first | rfl | (rw [if_pos (by omega), if_pos (by omega)]; go_simp; rfl) | (rw [if_pos (by omega)]; go_simp; rfl) | skip
          · have l0 := (HZ.out _ hxw).1.1
            have l1 := (HZ.out _ hxw).1.2.1
            have l2 := (HZ.out _ hxw).1.2.2
            have f0 := (HZ.out _ hxw).2.1
            have f1 := (HZ.out _ hxw).2.2.1
            have f2 := (HZ.out _ hxw).2.2.2
            clear hj
            go_simp
            try go_bits
            first | rfl | (rw [if_pos (by omega), if_pos (by omega)]; go_simp; rfl) | (rw [if_pos (by omega)]; go_simp; rfl) | skip
          · have l0 := (HZ.out _ hxw).1.1
            have l1 := (HZ.out _ hxw).1.2.1
            have l2 := (HZ.out _ hxw).1.2.2
            have f0 := (HZ.out _ hxw).2.1
            have f1 := (HZ.out _ hxw).2.2.1
            have f2 := (HZ.out _ hxw).2.2.2
            clear hj
            go_simp
            try go_bits
            first | rfl | (rw [if_pos (by omega), if_pos (by omega)]; go_simp; rfl) | (rw [if_pos (by omega)]; go_simp; rfl) | skip
          · have l0 := (HZ.out _ hxw).1.1
            have l1 := (HZ.out _ hxw).1.2.1
            have l2 := (HZ.out _ hxw).1.2.2
            have f0 := (HZ.out _ hxw).2.1
            have f1 := (HZ.out _ hxw).2.2.1
            have f2 := (HZ.out _ hxw).2.2.2
            clear hj
            go_simp
            try go_bits
            first | rfl | (rw [if_pos (by omega), if_pos (by omega)]; go_simp; rfl) | (rw [if_pos (by omega)]; go_simp; rfl) | skip
          · have l0 := (HZ.out _ hxw).1.1
            have l1 := (HZ.out _ hxw).1.2.1
            have l2 := (HZ.out _ hxw).1.2.2
            have f0 := (HZ.out _ hxw).2.1
            have f1 := (HZ.out _ hxw).2.2.1
            have f2 := (HZ.out _ hxw).2.2.2
            clear hj
            go_simp
            try go_bits
            first | rfl | (rw [if_pos (by omega), if_pos (by omega)]; go_simp; rfl) | (rw [if_pos (by omega)]; go_simp; rfl) | skip
          · have l0 := (HZ.out _ hxw).1.1
            have l1 := (HZ.out _ hxw).1.2.1
            have l2 := (HZ.out _ hxw).1.2.2
            have f0 := (HZ.out _ hxw).2.1
            have f1 := (HZ.out _ hxw).2.2.1
            have f2 := (HZ.out _ hxw).2.2.2
            clear hj
            go_simp
            try go_bits
            first | rfl | (rw [if_pos (by omega), if_pos (by omega)]; go_simp; rfl) | (rw [if_pos (by omega)]; go_simp; rfl) | skip
          · have l0 := (HZ.out _ hxw).1.1
            have l1 := (HZ.out _ hxw).1.2.1
            have l2 := (HZ.out _ hxw).1.2.2
            have f0 := (HZ.out _ hxw).2.1
            have f1 := (HZ.out _ hxw).2.2.1
            have f2 := (HZ.out _ hxw).2.2.2
            clear hj
            go_simp
            try go_bits
            first | rfl | (rw [if_pos (by omega), if_pos (by omega)]; go_simp; rfl) | (rw [if_pos (by omega)]; go_simp; rfl) | skip
          · have l0 := (HZ.out _ hxw).1.1
            have l1 := (HZ.out _ hxw).1.2.1
            have l2 := (HZ.out _ hxw).1.2.2
            have f0 := (HZ.out _ hxw).2.1
            have f1 := (HZ.out _ hxw).2.2.1
            have f2 := (HZ.out _ hxw).2.2.2
            clear hj
            go_simp
            try go_bits
            first | rfl | (rw [if_pos (by omega), if_pos (by omega)]; go_simp; rfl) | (rw [if_pos (by omega)]; go_simp; rfl) | skip
        case' hx8_3_p =>
          intro vs w8 hx8 hk
          clear hk
          replace E := Ext.trans E hx8
          go_simp
          clear hx8
          go_wp2
          go_ret
          exact ⟨lab_bool HF.out.symm, Ext.trans HP.out.2.2.2 E⟩
      by_cases hk0 : k = 0
      · subst hk0
        simp only [Nat.zero_mul, Nat.add_zero] at k0 k1 k2
        have HK := Lib.hid (sokAt_zero HP.out.2.1 HB.out.1.symm HB.out.2.1.symm HB.out.2.2.symm)
        go_wp2
        have E := Ext.alloc wr (.cells #[.int .i64 x, .int .i64 y, .int .i64 z] 36)
        refine wp_region_inv (by kernel_rfl) (.known ?hx8_4_v0 :: .known ?hx8_4_v1 :: .known ?hx8_4_v2 :: .known ?hx8_4_v3 :: .known ?hx8_4_v4 :: .known (.bool true) :: .known ?hx8_4_v6 :: .known ?hx8_4_v7 :: .known ?hx8_4_v8 :: .known ?hx8_4_v9 :: .known ?hx8_4_v10 :: .known ?hx8_4_v11 :: .known ?hx8_4_v12 :: .known (.bool true) :: .known ?hx8_4_v14 :: .known ?hx8_4_v15 :: .known ?hx8_4_v16 :: .known ?hx8_4_v17 :: .known ?hx8_4_v18 :: .known ?hx8_4_v19 :: .known ?hx8_4_v20 :: .known ?hx8_4_v21 :: .known (.bool true) :: .known ?hx8_4_v23 :: .known ?hx8_4_v24 :: .known ?hx8_4_v25 :: .known ?hx8_4_v26 :: .known ?hx8_4_v27 :: .known ?hx8_4_v28 :: .known ?hx8_4_v29 :: .known ?hx8_4_v30 :: .known ?hx8_4_v31 :: .known ?hx8_4_v32 :: .known ?hx8_4_v33 :: .known ?hx8_4_v34 :: .known ?hx8_4_v35 :: .known ?hx8_4_v36 :: .known ?hx8_4_v37 :: .known ?hx8_4_v38 :: .known ?hx8_4_v39 :: []) rfl (by kernel_rfl) ?hx8_4_s ?hx8_4_p
        case hx8_4_s =>
          intro vs
          refine ⟨fun w' hxw hj => ?_, fun w' hxw hj => ?_, fun w' hxw hj => ?_, fun w' hxw hj => ?_, fun w' hxw hj => ?_, fun w' hxw hj => ?_, fun w' hxw hj => ?_, fun w' hxw hj => ?_, fun w' hxw hj => ?_, fun w' hxw hj => ?_, fun w' hxw hj => ?_, fun w' hxw hj => ?_, fun w' hxw hj => ?_, fun w' hxw hj => ?_, fun w' hxw hj => ?_, fun w' hxw hj => ?_, fun w' hxw hj => ?_, fun w' hxw hj => ?_, fun w' hxw hj => ?_, fun w' hxw hj => ?_, fun w' hxw hj => ?_, fun w' hxw hj => ?_, fun w' hxw hj => ?_, fun w' hxw hj => ?_, fun w' hxw hj => ?_, fun w' hxw hj => ?_, fun w' hxw hj => ?_, fun w' hxw hj => ?_, fun w' hxw hj => ?_, fun w' hxw hj => ?_, fun w' hxw hj => ?_, fun w' hxw hj => ?_, fun w' hxw hj => ?_, fun w' hxw hj => ?_, fun w' hxw hj => ?_, fun w' hxw hj => ?_, fun w' hxw hj => ?_, fun w' hxw hj => ?_, fun w' hxw hj => ?_, fun w' hxw hj => ?_, trivial⟩
          · have l0 := (HZ.out _ hxw).1.1
            have l1 := (HZ.out _ hxw).1.2.1
            have l2 := (HZ.out _ hxw).1.2.2
            have f0 := (HZ.out _ hxw).2.1
            have f1 := (HZ.out _ hxw).2.2.1
            have f2 := (HZ.out _ hxw).2.2.2
            clear hj
            go_simp
            try go_bits
            first | rfl | (rw [if_pos (by omega), if_pos (by omega)]; go_simp; rfl) | (rw [if_pos (by omega)]; go_simp; rfl) | skip
          · have l0 := (HZ.out _ hxw).1.1
            have l1 := (HZ.out _ hxw).1.2.1
            have l2 := (HZ.out _ hxw).1.2.2
            have f0 := (HZ.out _ hxw).2.1
            have f1 := (HZ.out _ hxw).2.2.1
            have f2 := (HZ.out _ hxw).2.2.2
            clear hj
            go_simp
            try go_bits
            first | rfl | (rw [if_pos (by omega), if_pos (by omega)]; go_simp; rfl) | (rw [if_pos (by omega)]; go_simp; rfl) | skip
          · have l0 := (HZ.out _ hxw).1.1
            have l1 := (HZ.out _ hxw).1.2.1
            have l2 := (HZ.out _ hxw).1.2.2
            have f0 := (HZ.out _ hxw).2.1
            have f1 := (HZ.out _ hxw).2.2.1
            have f2 := (HZ.out _ hxw).2.2.2
            clear hj
            go_simp
            try go_bits
            first | rfl | (rw [if_pos (by omega), if_pos (by omega)]; go_simp; rfl) | (rw [if_pos (by omega)]; go_simp; rfl) | skip
          · have l0 := (HZ.out _ hxw).1.1
            have l1 := (HZ.out _ hxw).1.2.1
            have l2 := (HZ.out _ hxw).1.2.2
            have f0 := (HZ.out _ hxw).2.1
            have f1 := (HZ.out _ hxw).2.2.1
            have f2 := (HZ.out _ hxw).2.2.2
            clear hj
            go_simp
            try go_bits
            first | rfl | (rw [if_pos (by omega), if_pos (by omega)]; go_simp; rfl) | (rw [if_pos (by omega)]; go_simp; rfl) | skip
          · have l0 := (HZ.out _ hxw).1.1
            have l1 := (HZ.out _ hxw).1.2.1
            have l2 := (HZ.out _ hxw).1.2.2
            have f0 := (HZ.out _ hxw).2.1
            have f1 := (HZ.out _ hxw).2.2.1
            have f2 := (HZ.out _ hxw).2.2.2
            clear hj
            go_simp
            try go_bits
            first | rfl | (rw [if_pos (by omega), if_pos (by omega)]; go_simp; rfl) | (rw [if_pos (by omega)]; go_simp; rfl) | skip
          · have l0 := (HZ.out _ hxw).1.1
            have l1 := (HZ.out _ hxw).1.2.1
            have l2 := (HZ.out _ hxw).1.2.2
            have f0 := (HZ.out _ hxw).2.1
            have f1 := (HZ.out _ hxw).2.2.1
            have f2 := (HZ.out _ hxw).2.2.2
            clear hj
            go_simp
            try go_bits
            exact (HC.out.1 _).mono fun _ _ ⟨h1, h2⟩ => ⟨h1, h2 ▸ Ext.refl _⟩
          · have l0 := (HZ.out _ hxw).1.1
            have l1 := (HZ.out _ hxw).1.2.1
            have l2 := (HZ.out _ hxw).1.2.2
            have f0 := (HZ.out _ hxw).2.1
            have f1 := (HZ.out _ hxw).2.2.1
            have f2 := (HZ.out _ hxw).2.2.2
            clear hj
            go_simp
            try go_bits
            first | rfl | (rw [if_pos (by omega), if_pos (by omega)]; go_simp; rfl) | (rw [if_pos (by omega)]; go_simp; rfl) | skip
          · have l0 := (HZ.out _ hxw).1.1
            have l1 := (HZ.out _ hxw).1.2.1
            have l2 := (HZ.out _ hxw).1.2.2
            have f0 := (HZ.out _ hxw).2.1
            have f1 := (HZ.out _ hxw).2.2.1
            have f2 := (HZ.out _ hxw).2.2.2
            clear hj
            go_simp
            try go_bits
            first | rfl | (rw [if_pos (by omega), if_pos (by omega)]; go_simp; rfl) | (rw [if_pos (by omega)]; go_simp; rfl) | skip
          · have l0 := (HZ.out _ hxw).1.1
            have l1 := (HZ.out _ hxw).1.2.1
            have l2 := (HZ.out _ hxw).1.2.2
            have f0 := (HZ.out _ hxw).2.1
            have f1 := (HZ.out _ hxw).2.2.1
            have f2 := (HZ.out _ hxw).2.2.2
            clear hj
            go_simp
            try go_bits
            first | rfl | (rw [if_pos (by omega), if_pos (by omega)]; go_simp; rfl) | (rw [if_pos (by omega)]; go_simp; rfl) | skip
          · have l0 := (HZ.out _ hxw).1.1
            have l1 := (HZ.out _ hxw).1.2.1
            have l2 := (HZ.out _ hxw).1.2.2
            have f0 := (HZ.out _ hxw).2.1
            have f1 := (HZ.out _ hxw).2.2.1
            have f2 := (HZ.out _ hxw).2.2.2
            clear hj
            go_simp
            try go_bits
            first | rfl | (rw [if_pos (by omega), if_pos (by omega)]; go_simp; rfl) | (rw [if_pos (by omega)]; go_simp; rfl) | skip
          · have l0 := (HZ.out _ hxw).1.1
            have l1 := (HZ.out _ hxw).1.2.1
            have l2 := (HZ.out _ hxw).1.2.2
            have f0 := (HZ.out _ hxw).2.1
            have f1 := (HZ.out _ hxw).2.2.1
            have f2 := (HZ.out _ hxw).2.2.2
            clear hj
            go_simp
            try go_bits
            first | rfl | (rw [if_pos (by omega), if_pos (by omega)]; go_simp; rfl) | (rw [if_pos (by omega)]; go_simp; rfl) | skip
          · have l0 := (HZ.out _ hxw).1.1
            have l1 := (HZ.out _ hxw).1.2.1
            have l2 := (HZ.out _ hxw).1.2.2
            have f0 := (HZ.out _ hxw).2.1
            have f1 := (HZ.out _ hxw).2.2.1
            have f2 := (HZ.out _ hxw).2.2.2
            clear hj
            go_simp
            try go_bits
            first | rfl | (rw [if_pos (by omega), if_pos (by omega)]; go_simp; rfl) | (rw [if_pos (by omega)]; go_simp; rfl) | skip
          · have l0 := (HZ.out _ hxw).1.1
            have l1 := (HZ.out _ hxw).1.2.1
            have l2 := (HZ.out _ hxw).1.2.2
            have f0 := (HZ.out _ hxw).2.1
            have f1 := (HZ.out _ hxw).2.2.1
            have f2 := (HZ.out _ hxw).2.2.2
            clear hj
            go_simp
            try go_bits
            first | rfl | (rw [if_pos (by omega), if_pos (by omega)]; go_simp; rfl) | (rw [if_pos (by omega)]; go_simp; rfl) | skip
          · have l0 := (HZ.out _ hxw).1.1
            have l1 := (HZ.out _ hxw).1.2.1
            have l2 := (HZ.out _ hxw).1.2.2
            have f0 := (HZ.out _ hxw).2.1
            have f1 := (HZ.out _ hxw).2.2.1
            have f2 := (HZ.out _ hxw).2.2.2
            clear hj
            go_simp
            try go_bits
            exact (HC.out.2.1 _).mono fun _ _ ⟨h1, h2⟩ => ⟨h1, h2 ▸ Ext.refl _⟩
          · have l0 := (HZ.out _ hxw).1.1
            have l1 := (HZ.out _ hxw).1.2.1
            have l2 := (HZ.out _ hxw).1.2.2
            have f0 := (HZ.out _ hxw).2.1
            have f1 := (HZ.out _ hxw).2.2.1
            have f2 := (HZ.out _ hxw).2.2.2
            clear hj
            go_simp
            try go_bits
            first | rfl | (rw [if_pos (by omega), if_pos (by omega)]; go_simp; rfl) | (rw [if_pos (by omega)]; go_simp; rfl) | skip
          · have l0 := (HZ.out _ hxw).1.1
            have l1 := (HZ.out _ hxw).1.2.1
            have l2 := (HZ.out _ hxw).1.2.2
            have f0 := (HZ.out _ hxw).2.1
            have f1 := (HZ.out _ hxw).2.2.1
            have f2 := (HZ.out _ hxw).2.2.2
            clear hj
            go_simp
            try go_bits
            first | rfl | (rw [if_pos (by omega), if_pos (by omega)]; go_simp; rfl) | (rw [if_pos (by omega)]; go_simp; rfl) | skip
          · have l0 := (HZ.out _ hxw).1.1
            have l1 := (HZ.out _ hxw).1.2.1
            have l2 := (HZ.out _ hxw).1.2.2
            have f0 := (HZ.out _ hxw).2.1
            have f1 := (HZ.out _ hxw).2.2.1
            have f2 := (HZ.out _ hxw).2.2.2
            clear hj
            go_simp
            try go_bits
            first | rfl | (rw [if_pos (by omega), if_pos (by omega)]; go_simp; rfl) | (rw [if_pos (by omega)]; go_simp; rfl) | skip
          · have l0 := (HZ.out _ hxw).1.1
            have l1 := (HZ.out _ hxw).1.2.1
            have l2 := (HZ.out _ hxw).1.2.2
            have f0 := (HZ.out _ hxw).2.1
            have f1 := (HZ.out _ hxw).2.2.1
            have f2 := (HZ.out _ hxw).2.2.2
            clear hj
            go_simp
            try go_bits
            first | rfl | (rw [if_pos (by omega), if_pos (by omega)]; go_simp; rfl) | (rw [if_pos (by omega)]; go_simp; rfl) | skip
          · have l0 := (HZ.out _ hxw).1.1
            have l1 := (HZ.out _ hxw).1.2.1
            have l2 := (HZ.out _ hxw).1.2.2
            have f0 := (HZ.out _ hxw).2.1
            have f1 := (HZ.out _ hxw).2.2.1
            have f2 := (HZ.out _ hxw).2.2.2
            clear hj
            go_simp
            try go_bits
            first | rfl | (rw [if_pos (by omega), if_pos (by omega)]; go_simp; rfl) | (rw [if_pos (by omega)]; go_simp; rfl) | skip
          · have l0 := (HZ.out _ hxw).1.1
            have l1 := (HZ.out _ hxw).1.2.1
            have l2 := (HZ.out _ hxw).1.2.2
            have f0 := (HZ.out _ hxw).2.1
            have f1 := (HZ.out _ hxw).2.2.1
            have f2 := (HZ.out _ hxw).2.2.2
            clear hj
            go_simp
            try go_bits
            first | rfl | (rw [if_pos (by omega), if_pos (by omega)]; go_simp; rfl) | (rw [if_pos (by omega)]; go_simp; rfl) | skip
          · have l0 := (HZ.out _ hxw).1.1
            have l1 := (HZ.out _ hxw).1.2.1
            have l2 := (HZ.out _ hxw).1.2.2
            have f0 := (HZ.out _ hxw).2.1
            have f1 := (HZ.out _ hxw).2.2.1
            have f2 := (HZ.out _ hxw).2.2.2
            clear hj
            go_simp
            try go_bits
            first | rfl | (rw [if_pos (by omega), if_pos (by omega)]; go_simp; rfl) | (rw [if_pos (by omega)]; go_simp; rfl) | skip
          · have l0 := (HZ.out _ hxw).1.1
            have l1 := (HZ.out _ hxw).1.2.1
            have l2 := (HZ.out _ hxw).1.2.2
            have f0 := (HZ.out _ hxw).2.1
            have f1 := (HZ.out _ hxw).2.2.1
            have f2 := (HZ.out _ hxw).2.2.2
            clear hj
            go_simp
            try go_bits
            first | rfl | (rw [if_pos (by omega), if_pos (by omega)]; go_simp; rfl) | (rw [if_pos (by omega)]; go_simp; rfl) | skip
          · have l0 := (HZ.out _ hxw).1.1
            have l1 := (HZ.out _ hxw).1.2.1
            have l2 := (HZ.out _ hxw).1.2.2
            have f0 := (HZ.out _ hxw).2.1
            have f1 := (HZ.out _ hxw).2.2.1
            have f2 := (HZ.out _ hxw).2.2.2
            clear hj
            go_simp
            try go_bits
            exact (HC.out.2.2 _).mono fun _ _ ⟨h1, h2⟩ => ⟨h1, h2 ▸ Ext.refl _⟩
          · have l0 := (HZ.out _ hxw).1.1
            have l1 := (HZ.out _ hxw).1.2.1
            have l2 := (HZ.out _ hxw).1.2.2
            have f0 := (HZ.out _ hxw).2.1
            have f1 := (HZ.out _ hxw).2.2.1
            have f2 := (HZ.out _ hxw).2.2.2
            clear hj
            go_simp
            try go_bits
            first | rfl | (rw [if_pos (by omega), if_pos (by omega)]; go_simp; rfl) | (rw [if_pos (by omega)]; go_simp; rfl) | skip
          · have l0 := (HZ.out _ hxw).1.1
            have l1 := (HZ.out _ hxw).1.2.1
            have l2 := (HZ.out _ hxw).1.2.2
            have f0 := (HZ.out _ hxw).2.1
            have f1 := (HZ.out _ hxw).2.2.1
            have f2 := (HZ.out _ hxw).2.2.2
            clear hj
            go_simp
            try go_bits
            first | rfl | (rw [if_pos (by omega), if_pos (by omega)]; go_simp; rfl) | (rw [if_pos (by omega)]; go_simp; rfl) | skip
          · have l0 := (HZ.out _ hxw).1.1
            have l1 := (HZ.out _ hxw).1.2.1
            have l2 := (HZ.out _ hxw).1.2.2
            have f0 := (HZ.out _ hxw).2.1
            have f1 := (HZ.out _ hxw).2.2.1
            have f2 := (HZ.out _ hxw).2.2.2
            clear hj
            go_simp
            try go_bits
            first | rfl | (rw [if_pos (by omega), if_pos (by omega)]; go_simp; rfl) | (rw [if_pos (by omega)]; go_simp; rfl) | skip
          · have l0 := (HZ.out _ hxw).1.1
            have l1 := (HZ.out _ hxw).1.2.1
            have l2 := (HZ.out _ hxw).1.2.2
            have f0 := (HZ.out _ hxw).2.1
            have f1 := (HZ.out _ hxw).2.2.1
            have f2 := (HZ.out _ hxw).2.2.2
            clear hj
            go_simp
            try go_bits
            first | rfl | (rw [if_pos (by omega), if_pos (by omega)]; go_simp; rfl) | (rw [if_pos (by omega)]; go_simp; rfl) | skip
          · have l0 := (HZ.out _ hxw).1.1
            have l1 := (HZ.out _ hxw).1.2.1
            have l2 := (HZ.out _ hxw).1.2.2
            have f0 := (HZ.out _ hxw).2.1
            have f1 := (HZ.out _ hxw).2.2.1
            have f2 := (HZ.out _ hxw).2.2.2
            clear hj
            go_simp
            try go_bits
            first | rfl | (rw [if_pos (by omega), if_pos (by omega)]; go_simp; rfl) | (rw [if_pos (by omega)]; go_simp; rfl) | skip
          · have l0 := (HZ.out _ hxw).1.1
            have l1 := (HZ.out _ hxw).1.2.1
            have l2 := (HZ.out _ hxw).1.2.2
            have f0 := (HZ.out _ hxw).2.1
            have f1 := (HZ.out _ hxw).2.2.1
            have f2 := (HZ.out _ hxw).2.2.2
            clear hj
            go_simp
            try go_bits
            first | rfl | (rw [if_pos (by omega), if_pos (by omega)]; go_simp; rfl) | (rw [if_pos (by omega)]; go_simp; rfl) | skip
          · have l0 := (HZ.out _ hxw).1.1
            have l1 := (HZ.out _ hxw).1.2.1
            have l2 := (HZ.out _ hxw).1.2.2
            have f0 := (HZ.out _ hxw).2.1
            have f1 := (HZ.out _ hxw).2.2.1
            have f2 := (HZ.out _ hxw).2.2.2
            clear hj
            go_simp
            try go_bits
            first | rfl | (rw [if_pos (by omega), if_pos (by omega)]; go_simp; rfl) | (rw [if_pos (by omega)]; go_simp; rfl) | skip
          · have l0 := (HZ.out _ hxw).1.1
            have l1 := (HZ.out _ hxw).1.2.1
            have l2 := (HZ.out _ hxw).1.2.2
            have f0 := (HZ.out _ hxw).2.1
            have f1 := (HZ.out _ hxw).2.2.1
            have f2 := (HZ.out _ hxw).2.2.2
            clear hj
            go_simp
            try go_bits
            first | rfl | (rw [if_pos (by omega), if_pos (by omega)]; go_simp; rfl) | (rw [if_pos (by omega)]; go_simp; rfl) | skip
          · have l0 := (HZ.out _ hxw).1.1
            have l1 := (HZ.out _ hxw).1.2.1
            have l2 := (HZ.out _ hxw).1.2.2
            have f0 := (HZ.out _ hxw).2.1
            have f1 := (HZ.out _ hxw).2.2.1
            have f2 := (HZ.out _ hxw).2.2.2
            clear hj
            go_simp
            try go_bits
            first | rfl | (rw [if_pos (by omega), if_pos (by omega)]; go_simp; rfl) | (rw [if_pos (by omega)]; go_simp; rfl) | skip
          · have l0 := (HZ.out _ hxw).1.1
            have l1 := (HZ.out _ hxw).1.2.1
            have l2 := (HZ.out _ hxw).1.2.2
            have f0 := (HZ.out _ hxw).2.1
            have f1 := (HZ.out _ hxw).2.2.1
            have f2 := (HZ.out _ hxw).2.2.2
            clear hj
            go_simp
            try go_bits
            first | rfl | (rw [if_pos (by omega), if_pos (by omega)]; go_simp; rfl) | (rw [if_pos (by omega)]; go_simp; rfl) | skip
          · have l0 := (HZ.out _ hxw).1.1
            have l1 := (HZ.out _ hxw).1.2.1
            have l2 := (HZ.out _ hxw).1.2.2
            have f0 := (HZ.out _ hxw).2.1
            have f1 := (HZ.out _ hxw).2.2.1
            have f2 := (HZ.out _ hxw).2.2.2
            clear hj
            go_simp
            try go_bits
            first | rfl | (rw [if_pos (by omega), if_pos (by omega)]; go_simp; rfl) | (rw [if_pos (by omega)]; go_simp; rfl) | skip
          · have l0 := (HZ.out _ hxw).1.1
            have l1 := (HZ.out _ hxw).1.2.1
            have l2 := (HZ.out _ hxw).1.2.2
            have f0 := (HZ.out _ hxw).2.1
            have f1 := (HZ.out _ hxw).2.2.1
            have f2 := (HZ.out _ hxw).2.2.2
            clear hj
            go_simp
            try go_bits
            first | rfl | (rw [if_pos (by omega), if_pos (by omega)]; go_simp; rfl) | (rw [if_pos (by omega)]; go_simp; rfl) | skip
          · have l0 := (HZ.out _ hxw).1.1
            have l1 := (HZ.out _ hxw).1.2.1
            have l2 := (HZ.out _ hxw).1.2.2
            have f0 := (HZ.out _ hxw).2.1
            have f1 := (HZ.out _ hxw).2.2.1
            have f2 := (HZ.out _ hxw).2.2.2
            clear hj
            go_simp
            try go_bits
            first | rfl | (rw [if_pos (by omega), if_pos (by omega)]; go_simp; rfl) | (rw [if_pos (by omega)]; go_simp; rfl) | skip
          · have l0 := (HZ.out _ hxw).1.1
            have l1 := (HZ.out _ hxw).1.2.1
            have l2 := (HZ.out _ hxw).1.2.2
            have f0 := (HZ.out _ hxw).2.1
            have f1 := (HZ.out _ hxw).2.2.1
            have f2 := (HZ.out _ hxw).2.2.2
            clear hj
            go_simp
            try go_bits
            first | rfl | (rw [if_pos (by omega), if_pos (by omega)]; go_simp; rfl) | (rw [if_pos (by omega)]; go_simp; rfl) | skip
          · have l0 := (HZ.out _ hxw).1.1
            have l1 := (HZ.out _ hxw).1.2.1
            have l2 := (HZ.out _ hxw).1.2.2
            have f0 := (HZ.out _ hxw).2.1
            have f1 := (HZ.out _ hxw).2.2.1
            have f2 := (HZ.out _ hxw).2.2.2
            clear hj
            go_simp
            try go_bits
            first | rfl | (rw [if_pos (by omega), if_pos (by omega)]; go_simp; rfl) | (rw [if_pos (by omega)]; go_simp; rfl) | skip
          · have l0 := (HZ.out _ hxw).1.1
            have l1 := (HZ.out _ hxw).1.2.1
            have l2 := (HZ.out _ hxw).1.2.2
            have f0 := (HZ.out _ hxw).2.1
            have f1 := (HZ.out _ hxw).2.2.1
            have f2 := (HZ.out _ hxw).2.2.2
            clear hj
            go_simp
            try go_bits
            first | rfl | (rw [if_pos (by omega), if_pos (by omega)]; go_simp; rfl) | (rw [if_pos (by omega)]; go_simp; rfl) | skip
          · have l0 := (HZ.out _ hxw).1.1
            have l1 := (HZ.out _ hxw).1.2.1
            have l2 := (HZ.out _ hxw).1.2.2
            have f0 := (HZ.out _ hxw).2.1
            have f1 := (HZ.out _ hxw).2.2.1
            have f2 := (HZ.out _ hxw).2.2.2
            clear hj
            go_simp
            try go_bits
            first | rfl | (rw [if_pos (by omega), if_pos (by omega)]; go_simp; rfl) | (rw [if_pos (by omega)]; go_simp; rfl) | skip
        case' hx8_4_p =>
          intro vs w8 hx8 hk
          clear hk
          replace E := Ext.trans E hx8
          go_simp
          clear hx8
          go_wp2
          go_roundw
          case rel => exact ⟨1, by omega, by go_num, fun j hj => by
            have e : j = 0 := by omega
            subst e; exact HK.out, Ext.trans HP.out.2.2.1 E⟩
          case measure => simp [intOf]; omega
      · obtain ⟨j, hj⟩ : ∃ j, k = j + 1 := ⟨k - 1, by omega⟩
        have hkj : (k : Int) - 1 = (j : Int) := by omega
        have hjn : j < n := by omega
        have hk0' : 0 < k := by omega
        obtain ⟨_, _, x', y', z', e, hxyz', p0, p1, p2⟩ := (HM.out.1.ext HP.out.2.2.2).at j (by rw [← HM.out.2.1]; exact hjn)
        cases e
        have HQ := Lib.hid (show ∀ w', Ext (wr.alloc (.cells #[.int .i64 x, .int .i64 y, .int .i64 z] 36)) w' → w'.cell? ⟨b, o + j * 3, none⟩ = some (.int .i64 x') ∧ w'.cell? ⟨b, o + j * 3 + 1, none⟩ = some (.int .i64 y') ∧ w'.cell? ⟨b, o + j * 3 + 2, none⟩ = some (.int .i64 z') from
          fun w' hw => ⟨hw.cell_some (old_cell p0), hw.cell_some (old_cell p1), hw.cell_some (old_cell p2)⟩)
        have hsc : sokAt T U ar k = decide (cmpA (x', y', z') (x, y, z) < 0) := by
          have h7 := HP.out.2.1
          rw [hj] at h7 ⊢
          exact sokAt_succ hxyz' h7 HB.out.1.symm HB.out.2.1.symm HB.out.2.2.symm
        obtain ⟨c, hcc⟩ : ∃ c, c = decide (cmpA (x', y', z') (x, y, z) < 0) := ⟨_, rfl⟩
        have hca := fun w => l14Before_any x' y' z' x y z w
        rw [← hcc] at hsc hca
        have HK := Lib.hid (And.intro hsc (And.intro hca hj))
        clear hsc hca hcc hj p0 p1 p2 hxyz'
        cases c
        · have HF := Lib.hid (isLab_sbad HM.out.2.2.1 HM.out.2.2.2 (by rw [← HM.out.2.1]; exact hlt) HK.out.1)
          go_wp2
          have E := Ext.alloc wr (.cells #[.int .i64 x, .int .i64 y, .int .i64 z] 36)
          refine wp_region_inv (by kernel_rfl) (.known ?hx8_5_v0 :: .known ?hx8_5_v1 :: .known ?hx8_5_v2 :: .known ?hx8_5_v3 :: .known ?hx8_5_v4 :: .known (.bool true) :: .known ?hx8_5_v6 :: .known ?hx8_5_v7 :: .known ?hx8_5_v8 :: .known ?hx8_5_v9 :: .known ?hx8_5_v10 :: .known ?hx8_5_v11 :: .known ?hx8_5_v12 :: .known (.bool true) :: .known ?hx8_5_v14 :: .known ?hx8_5_v15 :: .known ?hx8_5_v16 :: .known ?hx8_5_v17 :: .known ?hx8_5_v18 :: .known ?hx8_5_v19 :: .known ?hx8_5_v20 :: .known ?hx8_5_v21 :: .known (.bool true) :: .known ?hx8_5_v23 :: .known ?hx8_5_v24 :: .known ?hx8_5_v25 :: .known ?hx8_5_v26 :: .known ?hx8_5_v27 :: .known ?hx8_5_v28 :: .known ?hx8_5_v29 :: .known ?hx8_5_v30 :: .known ?hx8_5_v31 :: .known ?hx8_5_v32 :: .known ?hx8_5_v33 :: .known ?hx8_5_v34 :: .known ?hx8_5_v35 :: .known (.bool false) :: .known ?hx8_5_v37 :: .known ?hx8_5_v38 :: .known ?hx8_5_v39 :: []) rfl (by kernel_rfl) ?hx8_5_s ?hx8_5_p
          case hx8_5_s =>
            intro vs
            refine ⟨fun w' hxw hj => ?_, fun w' hxw hj => ?_, fun w' hxw hj => ?_, fun w' hxw hj => ?_, fun w' hxw hj => ?_, fun w' hxw hj => ?_, fun w' hxw hj => ?_, fun w' hxw hj => ?_, fun w' hxw hj => ?_, fun w' hxw hj => ?_, fun w' hxw hj => ?_, fun w' hxw hj => ?_, fun w' hxw hj => ?_, fun w' hxw hj => ?_, fun w' hxw hj => ?_, fun w' hxw hj => ?_, fun w' hxw hj => ?_, fun w' hxw hj => ?_, fun w' hxw hj => ?_, fun w' hxw hj => ?_, fun w' hxw hj => ?_, fun w' hxw hj => ?_, fun w' hxw hj => ?_, fun w' hxw hj => ?_, fun w' hxw hj => ?_, fun w' hxw hj => ?_, fun w' hxw hj => ?_, fun w' hxw hj => ?_, fun w' hxw hj => ?_, fun w' hxw hj => ?_, fun w' hxw hj => ?_, fun w' hxw hj => ?_, fun w' hxw hj => ?_, fun w' hxw hj => ?_, fun w' hxw hj => ?_, fun w' hxw hj => ?_, fun w' hxw hj => ?_, fun w' hxw hj => ?_, fun w' hxw hj => ?_, fun w' hxw hj => ?_, trivial⟩
            · have l0 := (HZ.out _ hxw).1.1
              have l1 := (HZ.out _ hxw).1.2.1
              have l2 := (HZ.out _ hxw).1.2.2
              have f0 := (HZ.out _ hxw).2.1
              have f1 := (HZ.out _ hxw).2.2.1
              have f2 := (HZ.out _ hxw).2.2.2
              clear hj
              go_simp
              try go_bits
              first | rfl | (rw [if_pos (by omega), if_pos (by omega)]; go_simp; rfl) | (rw [if_pos (by omega)]; go_simp; rfl) | skip
            · have l0 := (HZ.out _ hxw).1.1
              have l1 := (HZ.out _ hxw).1.2.1
              have l2 := (HZ.out _ hxw).1.2.2
              have f0 := (HZ.out _ hxw).2.1
              have f1 := (HZ.out _ hxw).2.2.1
              have f2 := (HZ.out _ hxw).2.2.2
              clear hj
              go_simp
              try go_bits
              first | rfl | (rw [if_pos (by omega), if_pos (by omega)]; go_simp; rfl) | (rw [if_pos (by omega)]; go_simp; rfl) | skip
            · have l0 := (HZ.out _ hxw).1.1
              have l1 := (HZ.out _ hxw).1.2.1
              have l2 := (HZ.out _ hxw).1.2.2
              have f0 := (HZ.out _ hxw).2.1
              have f1 := (HZ.out _ hxw).2.2.1
              have f2 := (HZ.out _ hxw).2.2.2
              clear hj
              go_simp
              try go_bits
              first | rfl | (rw [if_pos (by omega), if_pos (by omega)]; go_simp; rfl) | (rw [if_pos (by omega)]; go_simp; rfl) | skip
            · have l0 := (HZ.out _ hxw).1.1
              have l1 := (HZ.out _ hxw).1.2.1
              have l2 := (HZ.out _ hxw).1.2.2
              have f0 := (HZ.out _ hxw).2.1
              have f1 := (HZ.out _ hxw).2.2.1
              have f2 := (HZ.out _ hxw).2.2.2
              clear hj
              go_simp
              try go_bits
              first | rfl | (rw [if_pos (by omega), if_pos (by omega)]; go_simp; rfl) | (rw [if_pos (by omega)]; go_simp; rfl) | skip
            · have l0 := (HZ.out _ hxw).1.1
              have l1 := (HZ.out _ hxw).1.2.1
              have l2 := (HZ.out _ hxw).1.2.2
              have f0 := (HZ.out _ hxw).2.1
              have f1 := (HZ.out _ hxw).2.2.1
              have f2 := (HZ.out _ hxw).2.2.2
              clear hj
              go_simp
              try go_bits
              first | rfl | (rw [if_pos (by omega), if_pos (by omega)]; go_simp; rfl) | (rw [if_pos (by omega)]; go_simp; rfl) | skip
            · have l0 := (HZ.out _ hxw).1.1
              have l1 := (HZ.out _ hxw).1.2.1
              have l2 := (HZ.out _ hxw).1.2.2
              have f0 := (HZ.out _ hxw).2.1
              have f1 := (HZ.out _ hxw).2.2.1
              have f2 := (HZ.out _ hxw).2.2.2
              clear hj
              go_simp
              try go_bits
              exact (HC.out.1 _).mono fun _ _ ⟨h1, h2⟩ => ⟨h1, h2 ▸ Ext.refl _⟩
            · have l0 := (HZ.out _ hxw).1.1
              have l1 := (HZ.out _ hxw).1.2.1
              have l2 := (HZ.out _ hxw).1.2.2
              have f0 := (HZ.out _ hxw).2.1
              have f1 := (HZ.out _ hxw).2.2.1
              have f2 := (HZ.out _ hxw).2.2.2
              clear hj
              go_simp
              try go_bits
              first | rfl | (rw [if_pos (by omega), if_pos (by omega)]; go_simp; rfl) | (rw [if_pos (by omega)]; go_simp; rfl) | skip
            · have l0 := (HZ.out _ hxw).1.1
              have l1 := (HZ.out _ hxw).1.2.1
              have l2 := (HZ.out _ hxw).1.2.2
              have f0 := (HZ.out _ hxw).2.1
              have f1 := (HZ.out _ hxw).2.2.1
              have f2 := (HZ.out _ hxw).2.2.2
              clear hj
              go_simp
              try go_bits
              first | rfl | (rw [if_pos (by omega), if_pos (by omega)]; go_simp; rfl) | (rw [if_pos (by omega)]; go_simp; rfl) | skip
            · have l0 := (HZ.out _ hxw).1.1
              have l1 := (HZ.out _ hxw).1.2.1
              have l2 := (HZ.out _ hxw).1.2.2
              have f0 := (HZ.out _ hxw).2.1
              have f1 := (HZ.out _ hxw).2.2.1
              have f2 := (HZ.out _ hxw).2.2.2
              clear hj
              go_simp
              try go_bits
              first | rfl | (rw [if_pos (by omega), if_pos (by omega)]; go_simp; rfl) | (rw [if_pos (by omega)]; go_simp; rfl) | skip
            · have l0 := (HZ.out _ hxw).1.1
              have l1 := (HZ.out _ hxw).1.2.1
              have l2 := (HZ.out _ hxw).1.2.2
              have f0 := (HZ.out _ hxw).2.1
              have f1 := (HZ.out _ hxw).2.2.1
              have f2 := (HZ.out _ hxw).2.2.2
              clear hj
              go_simp
              try go_bits
              first | rfl | (rw [if_pos (by omega), if_pos (by omega)]; go_simp; rfl) | (rw [if_pos (by omega)]; go_simp; rfl) | skip
            · have l0 := (HZ.out _ hxw).1.1
              have l1 := (HZ.out _ hxw).1.2.1
              have l2 := (HZ.out _ hxw).1.2.2
              have f0 := (HZ.out _ hxw).2.1
              have f1 := (HZ.out _ hxw).2.2.1
              have f2 := (HZ.out _ hxw).2.2.2
              clear hj
              go_simp
              try go_bits
              first | rfl | (rw [if_pos (by omega), if_pos (by omega)]; go_simp; rfl) | (rw [if_pos (by omega)]; go_simp; rfl) | skip
            · have l0 := (HZ.out _ hxw).1.1
              have l1 := (HZ.out _ hxw).1.2.1
              have l2 := (HZ.out _ hxw).1.2.2
              have f0 := (HZ.out _ hxw).2.1
              have f1 := (HZ.out _ hxw).2.2.1
              have f2 := (HZ.out _ hxw).2.2.2
              clear hj
              go_simp
              try go_bits
              first | rfl | (rw [if_pos (by omega), if_pos (by omega)]; go_simp; rfl) | (rw [if_pos (by omega)]; go_simp; rfl) | skip
            · have l0 := (HZ.out _ hxw).1.1
              have l1 := (HZ.out _ hxw).1.2.1
              have l2 := (HZ.out _ hxw).1.2.2
              have f0 := (HZ.out _ hxw).2.1
              have f1 := (HZ.out _ hxw).2.2.1
              have f2 := (HZ.out _ hxw).2.2.2
              clear hj
              go_simp
              try go_bits
              first | rfl | (rw [if_pos (by omega), if_pos (by omega)]; go_simp; rfl) | (rw [if_pos (by omega)]; go_simp; rfl) | skip
            · have l0 := (HZ.out _ hxw).1.1
              have l1 := (HZ.out _ hxw).1.2.1
              have l2 := (HZ.out _ hxw).1.2.2
              have f0 := (HZ.out _ hxw).2.1
              have f1 := (HZ.out _ hxw).2.2.1
              have f2 := (HZ.out _ hxw).2.2.2
              clear hj
              go_simp
              try go_bits
              exact (HC.out.2.1 _).mono fun _ _ ⟨h1, h2⟩ => ⟨h1, h2 ▸ Ext.refl _⟩
            · have l0 := (HZ.out _ hxw).1.1
              have l1 := (HZ.out _ hxw).1.2.1
              have l2 := (HZ.out _ hxw).1.2.2
              have f0 := (HZ.out _ hxw).2.1
              have f1 := (HZ.out _ hxw).2.2.1
              have f2 := (HZ.out _ hxw).2.2.2
              clear hj
              go_simp
              try go_bits
              first | rfl | (rw [if_pos (by omega), if_pos (by omega)]; go_simp; rfl) | (rw [if_pos (by omega)]; go_simp; rfl) | skip
            · have l0 := (HZ.out _ hxw).1.1
              have l1 := (HZ.out _ hxw).1.2.1
              have l2 := (HZ.out _ hxw).1.2.2
              have f0 := (HZ.out _ hxw).2.1
              have f1 := (HZ.out _ hxw).2.2.1
              have f2 := (HZ.out _ hxw).2.2.2
              clear hj
              go_simp
              try go_bits
              first | rfl | (rw [if_pos (by omega), if_pos (by omega)]; go_simp; rfl) | (rw [if_pos (by omega)]; go_simp; rfl) | skip
            · have l0 := (HZ.out _ hxw).1.1
              have l1 := (HZ.out _ hxw).1.2.1
              have l2 := (HZ.out _ hxw).1.2.2
              have f0 := (HZ.out _ hxw).2.1
              have f1 := (HZ.out _ hxw).2.2.1
              have f2 := (HZ.out _ hxw).2.2.2
              clear hj
              go_simp
              try go_bits
              first | rfl | (rw [if_pos (by omega), if_pos (by omega)]; go_simp; rfl) | (rw [if_pos (by omega)]; go_simp; rfl) | skip
            · have l0 := (HZ.out _ hxw).1.1
              have l1 := (HZ.out _ hxw).1.2.1
              have l2 := (HZ.out _ hxw).1.2.2
              have f0 := (HZ.out _ hxw).2.1
              have f1 := (HZ.out _ hxw).2.2.1
              have f2 := (HZ.out _ hxw).2.2.2
              clear hj
              go_simp
              try go_bits
              first | rfl | (rw [if_pos (by omega), if_pos (by omega)]; go_simp; rfl) | (rw [if_pos (by omega)]; go_simp; rfl) | skip
            · have l0 := (HZ.out _ hxw).1.1
              have l1 := (HZ.out _ hxw).1.2.1
              have l2 := (HZ.out _ hxw).1.2.2
              have f0 := (HZ.out _ hxw).2.1
              have f1 := (HZ.out _ hxw).2.2.1
              have f2 := (HZ.out _ hxw).2.2.2
              clear hj
              go_simp
              try go_bits
              first | rfl | (rw [if_pos (by omega), if_pos (by omega)]; go_simp; rfl) | (rw [if_pos (by omega)]; go_simp; rfl) | skip
            · have l0 := (HZ.out _ hxw).1.1
              have l1 := (HZ.out _ hxw).1.2.1
              have l2 := (HZ.out _ hxw).1.2.2
              have f0 := (HZ.out _ hxw).2.1
              have f1 := (HZ.out _ hxw).2.2.1
              have f2 := (HZ.out _ hxw).2.2.2
              clear hj
              go_simp
              try go_bits
              first | rfl | (rw [if_pos (by omega), if_pos (by omega)]; go_simp; rfl) | (rw [if_pos (by omega)]; go_simp; rfl) | skip
            · have l0 := (HZ.out _ hxw).1.1
              have l1 := (HZ.out _ hxw).1.2.1
              have l2 := (HZ.out _ hxw).1.2.2
              have f0 := (HZ.out _ hxw).2.1
              have f1 := (HZ.out _ hxw).2.2.1
              have f2 := (HZ.out _ hxw).2.2.2
              clear hj
              go_simp
              try go_bits
              first | rfl | (rw [if_pos (by omega), if_pos (by omega)]; go_simp; rfl) | (rw [if_pos (by omega)]; go_simp; rfl) | skip
            · have l0 := (HZ.out _ hxw).1.1
              have l1 := (HZ.out _ hxw).1.2.1
              have l2 := (HZ.out _ hxw).1.2.2
              have f0 := (HZ.out _ hxw).2.1
              have f1 := (HZ.out _ hxw).2.2.1
              have f2 := (HZ.out _ hxw).2.2.2
              clear hj
              go_simp
              try go_bits
              first | rfl | (rw [if_pos (by omega), if_pos (by omega)]; go_simp; rfl) | (rw [if_pos (by omega)]; go_simp; rfl) | skip
            · have l0 := (HZ.out _ hxw).1.1
              have l1 := (HZ.out _ hxw).1.2.1
              have l2 := (HZ.out _ hxw).1.2.2
              have f0 := (HZ.out _ hxw).2.1
              have f1 := (HZ.out _ hxw).2.2.1
              have f2 := (HZ.out _ hxw).2.2.2
              clear hj
              go_simp
              try go_bits
              exact (HC.out.2.2 _).mono fun _ _ ⟨h1, h2⟩ => ⟨h1, h2 ▸ Ext.refl _⟩
            · have l0 := (HZ.out _ hxw).1.1
              have l1 := (HZ.out _ hxw).1.2.1
              have l2 := (HZ.out _ hxw).1.2.2
              have f0 := (HZ.out _ hxw).2.1
              have f1 := (HZ.out _ hxw).2.2.1
              have f2 := (HZ.out _ hxw).2.2.2
              clear hj
              go_simp
              try go_bits
              first | rfl | (rw [if_pos (by omega), if_pos (by omega)]; go_simp; rfl) | (rw [if_pos (by omega)]; go_simp; rfl) | skip
            · have l0 := (HZ.out _ hxw).1.1
              have l1 := (HZ.out _ hxw).1.2.1
              have l2 := (HZ.out _ hxw).1.2.2
              have f0 := (HZ.out _ hxw).2.1
              have f1 := (HZ.out _ hxw).2.2.1
              have f2 := (HZ.out _ hxw).2.2.2
              clear hj
              go_simp
              try go_bits
              first | rfl | (rw [if_pos (by omega), if_pos (by omega)]; go_simp; rfl) | (rw [if_pos (by omega)]; go_simp; rfl) | skip
            · have l0 := (HZ.out _ hxw).1.1
              have l1 := (HZ.out _ hxw).1.2.1
              have l2 := (HZ.out _ hxw).1.2.2
              have f0 := (HZ.out _ hxw).2.1
              have f1 := (HZ.out _ hxw).2.2.1
              have f2 := (HZ.out _ hxw).2.2.2
              clear hj
              go_simp
              try go_bits
              first | rfl | (rw [if_pos (by omega), if_pos (by omega)]; go_simp; rfl) | (rw [if_pos (by omega)]; go_simp; rfl) | skip
            · have l0 := (HZ.out _ hxw).1.1
              have l1 := (HZ.out _ hxw).1.2.1
              have l2 := (HZ.out _ hxw).1.2.2
              have f0 := (HZ.out _ hxw).2.1
              have f1 := (HZ.out _ hxw).2.2.1
              have f2 := (HZ.out _ hxw).2.2.2
              clear hj
              go_simp
              try go_bits
              first | rfl | (rw [if_pos (by omega), if_pos (by omega)]; go_simp; rfl) | (rw [if_pos (by omega)]; go_simp; rfl) | skip
            · have l0 := (HZ.out _ hxw).1.1
              have l1 := (HZ.out _ hxw).1.2.1
              have l2 := (HZ.out _ hxw).1.2.2
              have f0 := (HZ.out _ hxw).2.1
              have f1 := (HZ.out _ hxw).2.2.1
              have f2 := (HZ.out _ hxw).2.2.2
              clear hj
              go_simp
              try go_bits
              first | rfl | (rw [if_pos (by omega), if_pos (by omega)]; go_simp; rfl) | (rw [if_pos (by omega)]; go_simp; rfl) | skip
            · have l0 := (HZ.out _ hxw).1.1
              have l1 := (HZ.out _ hxw).1.2.1
              have l2 := (HZ.out _ hxw).1.2.2
              have f0 := (HZ.out _ hxw).2.1
              have f1 := (HZ.out _ hxw).2.2.1
              have f2 := (HZ.out _ hxw).2.2.2
              clear hj
              go_simp
              try go_bits
              first | rfl | (rw [if_pos (by omega), if_pos (by omega)]; go_simp; rfl) | (rw [if_pos (by omega)]; go_simp; rfl) | skip
            · have l0 := (HZ.out _ hxw).1.1
              have l1 := (HZ.out _ hxw).1.2.1
              have l2 := (HZ.out _ hxw).1.2.2
              have f0 := (HZ.out _ hxw).2.1
              have f1 := (HZ.out _ hxw).2.2.1
              have f2 := (HZ.out _ hxw).2.2.2
              clear hj
              go_simp
              try go_bits
              first | rfl | (rw [if_pos (by omega), if_pos (by omega)]; go_simp; rfl) | (rw [if_pos (by omega)]; go_simp; rfl) | skip
            · have l0 := (HZ.out _ hxw).1.1
              have l1 := (HZ.out _ hxw).1.2.1
              have l2 := (HZ.out _ hxw).1.2.2
              have f0 := (HZ.out _ hxw).2.1
              have f1 := (HZ.out _ hxw).2.2.1
              have f2 := (HZ.out _ hxw).2.2.2
              clear hj
              go_simp
              try go_bits
              first | rfl | (rw [if_pos (by omega), if_pos (by omega)]; go_simp; rfl) | (rw [if_pos (by omega)]; go_simp; rfl) | skip
            · have l0 := (HZ.out _ hxw).1.1
              have l1 := (HZ.out _ hxw).1.2.1
              have l2 := (HZ.out _ hxw).1.2.2
              have f0 := (HZ.out _ hxw).2.1
              have f1 := (HZ.out _ hxw).2.2.1
              have f2 := (HZ.out _ hxw).2.2.2
              clear hj
              go_simp
              try go_bits
              first | rfl | (rw [if_pos (by omega), if_pos (by omega)]; go_simp; rfl) | (rw [if_pos (by omega)]; go_simp; rfl) | skip
            · have l0 := (HZ.out _ hxw).1.1
              have l1 := (HZ.out _ hxw).1.2.1
              have l2 := (HZ.out _ hxw).1.2.2
              have f0 := (HZ.out _ hxw).2.1
              have f1 := (HZ.out _ hxw).2.2.1
              have f2 := (HZ.out _ hxw).2.2.2
              clear hj
              go_simp
              try go_bits
              first | rfl | (rw [if_pos (by omega), if_pos (by omega)]; go_simp; rfl) | (rw [if_pos (by omega)]; go_simp; rfl) | skip
            · have l0 := (HZ.out _ hxw).1.1
              have l1 := (HZ.out _ hxw).1.2.1
              have l2 := (HZ.out _ hxw).1.2.2
              have f0 := (HZ.out _ hxw).2.1
              have f1 := (HZ.out _ hxw).2.2.1
              have f2 := (HZ.out _ hxw).2.2.2
              clear hj
              go_simp
              try go_bits
              first | rfl | (rw [if_pos (by omega), if_pos (by omega)]; go_simp; rfl) | (rw [if_pos (by omega)]; go_simp; rfl) | skip
            · have l0 := (HZ.out _ hxw).1.1
              have l1 := (HZ.out _ hxw).1.2.1
              have l2 := (HZ.out _ hxw).1.2.2
              have f0 := (HZ.out _ hxw).2.1
              have f1 := (HZ.out _ hxw).2.2.1
              have f2 := (HZ.out _ hxw).2.2.2
              have p0 := (HQ.out _ hxw).1
              have p1 := (HQ.out _ hxw).2.1
              have p2 := (HQ.out _ hxw).2.2
              clear hj
              go_simp
              try go_bits
              first | rfl | (rw [if_pos (by omega), if_pos (by omega)]; go_simp; rfl) | (rw [if_pos (by omega)]; go_simp; rfl) | skip
            · have l0 := (HZ.out _ hxw).1.1
              have l1 := (HZ.out _ hxw).1.2.1
              have l2 := (HZ.out _ hxw).1.2.2
              have f0 := (HZ.out _ hxw).2.1
              have f1 := (HZ.out _ hxw).2.2.1
              have f2 := (HZ.out _ hxw).2.2.2
              clear hj
              go_simp
              try go_bits
              first | rfl | (rw [if_pos (by omega), if_pos (by omega)]; go_simp; rfl) | (rw [if_pos (by omega)]; go_simp; rfl) | skip
            · have l0 := (HZ.out _ hxw).1.1
              have l1 := (HZ.out _ hxw).1.2.1
              have l2 := (HZ.out _ hxw).1.2.2
              have f0 := (HZ.out _ hxw).2.1
              have f1 := (HZ.out _ hxw).2.2.1
              have f2 := (HZ.out _ hxw).2.2.2
              have p0 := (HQ.out _ hxw).1
              have p1 := (HQ.out _ hxw).2.1
              have p2 := (HQ.out _ hxw).2.2
              clear hj
              go_simp
              try go_bits
              exact HK.out.2.1 _
            · have l0 := (HZ.out _ hxw).1.1
              have l1 := (HZ.out _ hxw).1.2.1
              have l2 := (HZ.out _ hxw).1.2.2
              have f0 := (HZ.out _ hxw).2.1
              have f1 := (HZ.out _ hxw).2.2.1
              have f2 := (HZ.out _ hxw).2.2.2
              clear hj
              go_simp
              try go_bits
              first | rfl | (rw [if_pos (by omega), if_pos (by omega)]; go_simp; rfl) | (rw [if_pos (by omega)]; go_simp; rfl) | skip
            · have l0 := (HZ.out _ hxw).1.1
              have l1 := (HZ.out _ hxw).1.2.1
              have l2 := (HZ.out _ hxw).1.2.2
              have f0 := (HZ.out _ hxw).2.1
              have f1 := (HZ.out _ hxw).2.2.1
              have f2 := (HZ.out _ hxw).2.2.2
              clear hj
              go_simp
              try go_bits
              first | rfl | (rw [if_pos (by omega), if_pos (by omega)]; go_simp; rfl) | (rw [if_pos (by omega)]; go_simp; rfl) | skip
            · have l0 := (HZ.out _ hxw).1.1
              have l1 := (HZ.out _ hxw).1.2.1
              have l2 := (HZ.out _ hxw).1.2.2
              have f0 := (HZ.out _ hxw).2.1
              have f1 := (HZ.out _ hxw).2.2.1
              have f2 := (HZ.out _ hxw).2.2.2
              clear hj
              go_simp
              try go_bits
              first | rfl | (rw [if_pos (by omega), if_pos (by omega)]; go_simp; rfl) | (rw [if_pos (by omega)]; go_simp; rfl) | skip
          case' hx8_5_p =>
            intro vs w8 hx8 hk
            clear hk
            replace E := Ext.trans E hx8
            go_simp
            clear hx8
            go_wp2
            go_ret
            exact ⟨lab_bool HF.out.symm, Ext.trans HP.out.2.2.2 E⟩
        · skip
          go_wp2
          have E := Ext.alloc wr (.cells #[.int .i64 x, .int .i64 y, .int .i64 z] 36)
          refine wp_region_inv (by kernel_rfl) (.known ?hx8_6_v0 :: .known ?hx8_6_v1 :: .known ?hx8_6_v2 :: .known ?hx8_6_v3 :: .known ?hx8_6_v4 :: .known (.bool true) :: .known ?hx8_6_v6 :: .known ?hx8_6_v7 :: .known ?hx8_6_v8 :: .known ?hx8_6_v9 :: .known ?hx8_6_v10 :: .known ?hx8_6_v11 :: .known ?hx8_6_v12 :: .known (.bool true) :: .known ?hx8_6_v14 :: .known ?hx8_6_v15 :: .known ?hx8_6_v16 :: .known ?hx8_6_v17 :: .known ?hx8_6_v18 :: .known ?hx8_6_v19 :: .known ?hx8_6_v20 :: .known ?hx8_6_v21 :: .known (.bool true) :: .known ?hx8_6_v23 :: .known ?hx8_6_v24 :: .known ?hx8_6_v25 :: .known ?hx8_6_v26 :: .known ?hx8_6_v27 :: .known ?hx8_6_v28 :: .known ?hx8_6_v29 :: .known ?hx8_6_v30 :: .known ?hx8_6_v31 :: .known ?hx8_6_v32 :: .known ?hx8_6_v33 :: .known ?hx8_6_v34 :: .known ?hx8_6_v35 :: .known (.bool true) :: .known ?hx8_6_v37 :: .known ?hx8_6_v38 :: .known ?hx8_6_v39 :: []) rfl (by kernel_rfl) ?hx8_6_s ?hx8_6_p
          case hx8_6_s =>
            intro vs
            refine ⟨fun w' hxw hj => ?_, fun w' hxw hj => ?_, fun w' hxw hj => ?_, fun w' hxw hj => ?_, fun w' hxw hj => ?_, fun w' hxw hj => ?_, fun w' hxw hj => ?_, fun w' hxw hj => ?_, fun w' hxw hj => ?_, fun w' hxw hj => ?_, fun w' hxw hj => ?_, fun w' hxw hj => ?_, fun w' hxw hj => ?_, fun w' hxw hj => ?_, fun w' hxw hj => ?_, fun w' hxw hj => ?_, fun w' hxw hj => ?_, fun w' hxw hj => ?_, fun w' hxw hj => ?_, fun w' hxw hj => ?_, fun w' hxw hj => ?_, fun w' hxw hj => ?_, fun w' hxw hj => ?_, fun w' hxw hj => ?_, fun w' hxw hj => ?_, fun w' hxw hj => ?_, fun w' hxw hj => ?_, fun w' hxw hj => ?_, fun w' hxw hj => ?_, fun w' hxw hj => ?_, fun w' hxw hj => ?_, fun w' hxw hj => ?_, fun w' hxw hj => ?_, fun w' hxw hj => ?_, fun w' hxw hj => ?_, fun w' hxw hj => ?_, fun w' hxw hj => ?_, fun w' hxw hj => ?_, fun w' hxw hj => ?_, fun w' hxw hj => ?_, trivial⟩
            · have l0 := (HZ.out _ hxw).1.1
              have l1 := (HZ.out _ hxw).1.2.1
              have l2 := (HZ.out _ hxw).1.2.2
              have f0 := (HZ.out _ hxw).2.1
              have f1 := (HZ.out _ hxw).2.2.1
              have f2 := (HZ.out _ hxw).2.2.2
              clear hj
              go_simp
              try go_bits
              first | rfl | (rw [if_pos (by omega), if_pos (by omega)]; go_simp; rfl) | (rw [if_pos (by omega)]; go_simp; rfl) | skip
            · have l0 := (HZ.out _ hxw).1.1
              have l1 := (HZ.out _ hxw).1.2.1
              have l2 := (HZ.out _ hxw).1.2.2
              have f0 := (HZ.out _ hxw).2.1
              have f1 := (HZ.out _ hxw).2.2.1
              have f2 := (HZ.out _ hxw).2.2.2
              clear hj
              go_simp
              try go_bits
              first | rfl | (rw [if_pos (by omega), if_pos (by omega)]; go_simp; rfl) | (rw [if_pos (by omega)]; go_simp; rfl) | skip
            · have l0 := (HZ.out _ hxw).1.1
              have l1 := (HZ.out _ hxw).1.2.1
              have l2 := (HZ.out _ hxw).1.2.2
              have f0 := (HZ.out _ hxw).2.1
              have f1 := (HZ.out _ hxw).2.2.1
              have f2 := (HZ.out _ hxw).2.2.2
              clear hj
              go_simp
              try go_bits
              first | rfl | (rw [if_pos (by omega), if_pos (by omega)]; go_simp; rfl) | (rw [if_pos (by omega)]; go_simp; rfl) | skip
            · have l0 := (HZ.out _ hxw).1.1
              have l1 := (HZ.out _ hxw).1.2.1
              have l2 := (HZ.out _ hxw).1.2.2
              have f0 := (HZ.out _ hxw).2.1
              have f1 := (HZ.out _ hxw).2.2.1
              have f2 := (HZ.out _ hxw).2.2.2
              clear hj
              go_simp
              try go_bits
              first | rfl | (rw [if_pos (by omega), if_pos (by omega)]; go_simp; rfl) | (rw [if_pos (by omega)]; go_simp; rfl) | skip
            · have l0 := (HZ.out _ hxw).1.1
              have l1 := (HZ.out _ hxw).1.2.1
              have l2 := (HZ.out _ hxw).1.2.2
              have f0 := (HZ.out _ hxw).2.1
              have f1 := (HZ.out _ hxw).2.2.1
              have f2 := (HZ.out _ hxw).2.2.2
              clear hj
              go_simp
              try go_bits
              first | rfl | (rw [if_pos (by omega), if_pos (by omega)]; go_simp; rfl) | (rw [if_pos (by omega)]; go_simp; rfl) | skip
            · have l0 := (HZ.out _ hxw).1.1
              have l1 := (HZ.out _ hxw).1.2.1
              have l2 := (HZ.out _ hxw).1.2.2
              have f0 := (HZ.out _ hxw).2.1
              have f1 := (HZ.out _ hxw).2.2.1
              have f2 := (HZ.out _ hxw).2.2.2
              clear hj
              go_simp
              try go_bits
              exact (HC.out.1 _).mono fun _ _ ⟨h1, h2⟩ => ⟨h1, h2 ▸ Ext.refl _⟩
            · have l0 := (HZ.out _ hxw).1.1
              have l1 := (HZ.out _ hxw).1.2.1
              have l2 := (HZ.out _ hxw).1.2.2
              have f0 := (HZ.out _ hxw).2.1
              have f1 := (HZ.out _ hxw).2.2.1
              have f2 := (HZ.out _ hxw).2.2.2
              clear hj
              go_simp
              try go_bits
              first | rfl | (rw [if_pos (by omega), if_pos (by omega)]; go_simp; rfl) | (rw [if_pos (by omega)]; go_simp; rfl) | skip
            · have l0 := (HZ.out _ hxw).1.1
              have l1 := (HZ.out _ hxw).1.2.1
              have l2 := (HZ.out _ hxw).1.2.2
              have f0 := (HZ.out _ hxw).2.1
              have f1 := (HZ.out _ hxw).2.2.1
              have f2 := (HZ.out _ hxw).2.2.2
              clear hj
              go_simp
              try go_bits
              first | rfl | (rw [if_pos (by omega), if_pos (by omega)]; go_simp; rfl) | (rw [if_pos (by omega)]; go_simp; rfl) | skip
            · have l0 := (HZ.out _ hxw).1.1
              have l1 := (HZ.out _ hxw).1.2.1
              have l2 := (HZ.out _ hxw).1.2.2
              have f0 := (HZ.out _ hxw).2.1
              have f1 := (HZ.out _ hxw).2.2.1
              have f2 := (HZ.out _ hxw).2.2.2
              clear hj
              go_simp
              try go_bits
              first | rfl | (rw [if_pos (by omega), if_pos (by omega)]; go_simp; rfl) | (rw [if_pos (by omega)]; go_simp; rfl) | skip
            · have l0 := (HZ.out _ hxw).1.1
              have l1 := (HZ.out _ hxw).1.2.1
              have l2 := (HZ.out _ hxw).1.2.2
              have f0 := (HZ.out _ hxw).2.1
              have f1 := (HZ.out _ hxw).2.2.1
              have f2 := (HZ.out _ hxw).2.2.2
              clear hj
              go_simp
              try go_bits
              first | rfl | (rw [if_pos (by omega), if_pos (by omega)]; go_simp; rfl) | (rw [if_pos (by omega)]; go_simp; rfl) | skip
            · have l0 := (HZ.out _ hxw).1.1
              have l1 := (HZ.out _ hxw).1.2.1
              have l2 := (HZ.out _ hxw).1.2.2
              have f0 := (HZ.out _ hxw).2.1
              have f1 := (HZ.out _ hxw).2.2.1
              have f2 := (HZ.out _ hxw).2.2.2
              clear hj
              go_simp
              try go_bits
              first | rfl | (rw [if_pos (by omega), if_pos (by omega)]; go_simp; rfl) | (rw [if_pos (by omega)]; go_simp; rfl) | skip
            · have l0 := (HZ.out _ hxw).1.1
              have l1 := (HZ.out _ hxw).1.2.1
              have l2 := (HZ.out _ hxw).1.2.2
              have f0 := (HZ.out _ hxw).2.1
              have f1 := (HZ.out _ hxw).2.2.1
              have f2 := (HZ.out _ hxw).2.2.2
              clear hj
              go_simp
              try go_bits
              first | rfl | (rw [if_pos (by omega), if_pos (by omega)]; go_simp; rfl) | (rw [if_pos (by omega)]; go_simp; rfl) | skip
            · have l0 := (HZ.out _ hxw).1.1
              have l1 := (HZ.out _ hxw).1.2.1
              have l2 := (HZ.out _ hxw).1.2.2
              have f0 := (HZ.out _ hxw).2.1
              have f1 := (HZ.out _ hxw).2.2.1
              have f2 := (HZ.out _ hxw).2.2.2
              clear hj
              go_simp
              try go_bits
              first | rfl | (rw [if_pos (by omega), if_pos (by omega)]; go_simp; rfl) | (rw [if_pos (by omega)]; go_simp; rfl) | skip
            · have l0 := (HZ.out _ hxw).1.1
              have l1 := (HZ.out _ hxw).1.2.1
              have l2 := (HZ.out _ hxw).1.2.2
              have f0 := (HZ.out _ hxw).2.1
              have f1 := (HZ.out _ hxw).2.2.1
              have f2 := (HZ.out _ hxw).2.2.2
              clear hj
              go_simp
              try go_bits
              exact (HC.out.2.1 _).mono fun _ _ ⟨h1, h2⟩ => ⟨h1, h2 ▸ Ext.refl _⟩
            · have l0 := (HZ.out _ hxw).1.1
              have l1 := (HZ.out _ hxw).1.2.1
              have l2 := (HZ.out _ hxw).1.2.2
              have f0 := (HZ.out _ hxw).2.1
              have f1 := (HZ.out _ hxw).2.2.1
              have f2 := (HZ.out _ hxw).2.2.2
              clear hj
              go_simp
              try go_bits
              first | rfl | (rw [if_pos (by omega), if_pos (by omega)]; go_simp; rfl) | (rw [if_pos (by omega)]; go_simp; rfl) | skip
            · have l0 := (HZ.out _ hxw).1.1
              have l1 := (HZ.out _ hxw).1.2.1
              have l2 := (HZ.out _ hxw).1.2.2
              have f0 := (HZ.out _ hxw).2.1
              have f1 := (HZ.out _ hxw).2.2.1
              have f2 := (HZ.out _ hxw).2.2.2
              clear hj
              go_simp
              try go_bits
              first | rfl | (rw [if_pos (by omega), if_pos (by omega)]; go_simp; rfl) | (rw [if_pos (by omega)]; go_simp; rfl) | skip
            · have l0 := (HZ.out _ hxw).1.1
              have l1 := (HZ.out _ hxw).1.2.1
              have l2 := (HZ.out _ hxw).1.2.2
              have f0 := (HZ.out _ hxw).2.1
              have f1 := (HZ.out _ hxw).2.2.1
              have f2 := (HZ.out _ hxw).2.2.2
              clear hj
              go_simp
              try go_bits
              first | rfl | (rw [if_pos (by omega), if_pos (by omega)]; go_simp; rfl) | (rw [if_pos (by omega)]; go_simp; rfl) | skip
            · have l0 := (HZ.out _ hxw).1.1
              have l1 := (HZ.out _ hxw).1.2.1
              have l2 := (HZ.out _ hxw).1.2.2
              have f0 := (HZ.out _ hxw).2.1
              have f1 := (HZ.out _ hxw).2.2.1
              have f2 := (HZ.out _ hxw).2.2.2
              clear hj
              go_simp
              try go_bits
              first | rfl | (rw [if_pos (by omega), if_pos (by omega)]; go_simp; rfl) | (rw [if_pos (by omega)]; go_simp; rfl) | skip
            · have l0 := (HZ.out _ hxw).1.1
              have l1 := (HZ.out _ hxw).1.2.1
              have l2 := (HZ.out _ hxw).1.2.2
              have f0 := (HZ.out _ hxw).2.1
              have f1 := (HZ.out _ hxw).2.2.1
              have f2 := (HZ.out _ hxw).2.2.2
              clear hj
              go_simp
              try go_bits
              first | rfl | (rw [if_pos (by omega), if_pos (by omega)]; go_simp; rfl) | (rw [if_pos (by omega)]; go_simp; rfl) | skip
            · have l0 := (HZ.out _ hxw).1.1
              have l1 := (HZ.out _ hxw).1.2.1
              have l2 := (HZ.out _ hxw).1.2.2
              have f0 := (HZ.out _ hxw).2.1
              have f1 := (HZ.out _ hxw).2.2.1
              have f2 := (HZ.out _ hxw).2.2.2
              clear hj
              go_simp
              try go_bits
              first | rfl | (rw [if_pos (by omega), if_pos (by omega)]; go_simp; rfl) | (rw [if_pos (by omega)]; go_simp; rfl) | skip
            · have l0 := (HZ.out _ hxw).1.1
              have l1 := (HZ.out _ hxw).1.2.1
              have l2 := (HZ.out _ hxw).1.2.2
              have f0 := (HZ.out _ hxw).2.1
              have f1 := (HZ.out _ hxw).2.2.1
              have f2 := (HZ.out _ hxw).2.2.2
              clear hj
              go_simp
              try go_bits
              first | rfl | (rw [if_pos (by omega), if_pos (by omega)]; go_simp; rfl) | (rw [if_pos (by omega)]; go_simp; rfl) | skip
            · have l0 := (HZ.out _ hxw).1.1
              have l1 := (HZ.out _ hxw).1.2.1
              have l2 := (HZ.out _ hxw).1.2.2
              have f0 := (HZ.out _ hxw).2.1
              have f1 := (HZ.out _ hxw).2.2.1
              have f2 := (HZ.out _ hxw).2.2.2
              clear hj
              go_simp
              try go_bits
              first | rfl | (rw [if_pos (by omega), if_pos (by omega)]; go_simp; rfl) | (rw [if_pos (by omega)]; go_simp; rfl) | skip
            · have l0 := (HZ.out _ hxw).1.1
              have l1 := (HZ.out _ hxw).1.2.1
              have l2 := (HZ.out _ hxw).1.2.2
              have f0 := (HZ.out _ hxw).2.1
              have f1 := (HZ.out _ hxw).2.2.1
              have f2 := (HZ.out _ hxw).2.2.2
              clear hj
              go_simp
              try go_bits
              exact (HC.out.2.2 _).mono fun _ _ ⟨h1, h2⟩ => ⟨h1, h2 ▸ Ext.refl _⟩
            · have l0 := (HZ.out _ hxw).1.1
              have l1 := (HZ.out _ hxw).1.2.1
              have l2 := (HZ.out _ hxw).1.2.2
              have f0 := (HZ.out _ hxw).2.1
              have f1 := (HZ.out _ hxw).2.2.1
              have f2 := (HZ.out _ hxw).2.2.2
              clear hj
              go_simp
              try go_bits
              first | rfl | (rw [if_pos (by omega), if_pos (by omega)]; go_simp; rfl) | (rw [if_pos (by omega)]; go_simp; rfl) | skip
            · have l0 := (HZ.out _ hxw).1.1
              have l1 := (HZ.out _ hxw).1.2.1
              have l2 := (HZ.out _ hxw).1.2.2
              have f0 := (HZ.out _ hxw).2.1
              have f1 := (HZ.out _ hxw).2.2.1
              have f2 := (HZ.out _ hxw).2.2.2
              clear hj
              go_simp
              try go_bits
              first | rfl | (rw [if_pos (by omega), if_pos (by omega)]; go_simp; rfl) | (rw [if_pos (by omega)]; go_simp; rfl) | skip
            · have l0 := (HZ.out _ hxw).1.1
              have l1 := (HZ.out _ hxw).1.2.1
              have l2 := (HZ.out _ hxw).1.2.2
              have f0 := (HZ.out _ hxw).2.1
              have f1 := (HZ.out _ hxw).2.2.1
              have f2 := (HZ.out _ hxw).2.2.2
              clear hj
              go_simp
              try go_bits
              first | rfl | (rw [if_pos (by omega), if_pos (by omega)]; go_simp; rfl) | (rw [if_pos (by omega)]; go_simp; rfl) | skip
            · have l0 := (HZ.out _ hxw).1.1
              have l1 := (HZ.out _ hxw).1.2.1
              have l2 := (HZ.out _ hxw).1.2.2
              have f0 := (HZ.out _ hxw).2.1
              have f1 := (HZ.out _ hxw).2.2.1
              have f2 := (HZ.out _ hxw).2.2.2
              clear hj
              go_simp
              try go_bits
              first | rfl | (rw [if_pos (by omega), if_pos (by omega)]; go_simp; rfl) | (rw [if_pos (by omega)]; go_simp; rfl) | skip
            · have l0 := (HZ.out _ hxw).1.1
              have l1 := (HZ.out _ hxw).1.2.1
              have l2 := (HZ.out _ hxw).1.2.2
              have f0 := (HZ.out _ hxw).2.1
              have f1 := (HZ.out _ hxw).2.2.1
              have f2 := (HZ.out _ hxw).2.2.2
              clear hj
              go_simp
              try go_bits
              first | rfl | (rw [if_pos (by omega), if_pos (by omega)]; go_simp; rfl) | (rw [if_pos (by omega)]; go_simp; rfl) | skip
            · have l0 := (HZ.out _ hxw).1.1
              have l1 := (HZ.out _ hxw).1.2.1
              have l2 := (HZ.out _ hxw).1.2.2
              have f0 := (HZ.out _ hxw).2.1
              have f1 := (HZ.out _ hxw).2.2.1
              have f2 := (HZ.out _ hxw).2.2.2
              clear hj
              go_simp
              try go_bits
              first | rfl | (rw [if_pos (by omega), if_pos (by omega)]; go_simp; rfl) | (rw [if_pos (by omega)]; go_simp; rfl) | skip
            · have l0 := (HZ.out _ hxw).1.1
              have l1 := (HZ.out _ hxw).1.2.1
              have l2 := (HZ.out _ hxw).1.2.2
              have f0 := (HZ.out _ hxw).2.1
              have f1 := (HZ.out _ hxw).2.2.1
              have f2 := (HZ.out _ hxw).2.2.2
              clear hj
              go_simp
              try go_bits
              first | rfl | (rw [if_pos (by omega), if_pos (by omega)]; go_simp; rfl) | (rw [if_pos (by omega)]; go_simp; rfl) | skip
            · have l0 := (HZ.out _ hxw).1.1
              have l1 := (HZ.out _ hxw).1.2.1
              have l2 := (HZ.out _ hxw).1.2.2
              have f0 := (HZ.out _ hxw).2.1
              have f1 := (HZ.out _ hxw).2.2.1
              have f2 := (HZ.out _ hxw).2.2.2
              clear hj
              go_simp
              try go_bits
              first | rfl | (rw [if_pos (by omega), if_pos (by omega)]; go_simp; rfl) | (rw [if_pos (by omega)]; go_simp; rfl) | skip
            · have l0 := (HZ.out _ hxw).1.1
              have l1 := (HZ.out _ hxw).1.2.1
              have l2 := (HZ.out _ hxw).1.2.2
              have f0 := (HZ.out _ hxw).2.1
              have f1 := (HZ.out _ hxw).2.2.1
              have f2 := (HZ.out _ hxw).2.2.2
              clear hj
              go_simp
              try go_bits
              first | rfl | (rw [if_pos (by omega), if_pos (by omega)]; go_simp; rfl) | (rw [if_pos (by omega)]; go_simp; rfl) | skip
            · have l0 := (HZ.out _ hxw).1.1
              have l1 := (HZ.out _ hxw).1.2.1
              have l2 := (HZ.out _ hxw).1.2.2
              have f0 := (HZ.out _ hxw).2.1
              have f1 := (HZ.out _ hxw).2.2.1
              have f2 := (HZ.out _ hxw).2.2.2
              clear hj
              go_simp
              try go_bits
              first | rfl | (rw [if_pos (by omega), if_pos (by omega)]; go_simp; rfl) | (rw [if_pos (by omega)]; go_simp; rfl) | skip
            · have l0 := (HZ.out _ hxw).1.1
              have l1 := (HZ.out _ hxw).1.2.1
              have l2 := (HZ.out _ hxw).1.2.2
              have f0 := (HZ.out _ hxw).2.1
              have f1 := (HZ.out _ hxw).2.2.1
              have f2 := (HZ.out _ hxw).2.2.2
              clear hj
              go_simp
              try go_bits
              first | rfl | (rw [if_pos (by omega), if_pos (by omega)]; go_simp; rfl) | (rw [if_pos (by omega)]; go_simp; rfl) | skip
            · have l0 := (HZ.out _ hxw).1.1
              have l1 := (HZ.out _ hxw).1.2.1
              have l2 := (HZ.out _ hxw).1.2.2
              have f0 := (HZ.out _ hxw).2.1
              have f1 := (HZ.out _ hxw).2.2.1
              have f2 := (HZ.out _ hxw).2.2.2
              have p0 := (HQ.out _ hxw).1
              have p1 := (HQ.out _ hxw).2.1
              have p2 := (HQ.out _ hxw).2.2
              clear hj
              go_simp
              try go_bits
              first | rfl | (rw [if_pos (by omega), if_pos (by omega)]; go_simp; rfl) | (rw [if_pos (by omega)]; go_simp; rfl) | skip
            · have l0 := (HZ.out _ hxw).1.1
              have l1 := (HZ.out _ hxw).1.2.1
              have l2 := (HZ.out _ hxw).1.2.2
              have f0 := (HZ.out _ hxw).2.1
              have f1 := (HZ.out _ hxw).2.2.1
              have f2 := (HZ.out _ hxw).2.2.2
              clear hj
              go_simp
              try go_bits
              first | rfl | (rw [if_pos (by omega), if_pos (by omega)]; go_simp; rfl) | (rw [if_pos (by omega)]; go_simp; rfl) | skip
            · have l0 := (HZ.out _ hxw).1.1
              have l1 := (HZ.out _ hxw).1.2.1
              have l2 := (HZ.out _ hxw).1.2.2
              have f0 := (HZ.out _ hxw).2.1
              have f1 := (HZ.out _ hxw).2.2.1
              have f2 := (HZ.out _ hxw).2.2.2
              have p0 := (HQ.out _ hxw).1
              have p1 := (HQ.out _ hxw).2.1
              have p2 := (HQ.out _ hxw).2.2
              clear hj
              go_simp
              try go_bits
              exact HK.out.2.1 _
            · have l0 := (HZ.out _ hxw).1.1
              have l1 := (HZ.out _ hxw).1.2.1
              have l2 := (HZ.out _ hxw).1.2.2
              have f0 := (HZ.out _ hxw).2.1
              have f1 := (HZ.out _ hxw).2.2.1
              have f2 := (HZ.out _ hxw).2.2.2
              clear hj
              go_simp
              try go_bits
              first | rfl | (rw [if_pos (by omega), if_pos (by omega)]; go_simp; rfl) | (rw [if_pos (by omega)]; go_simp; rfl) | skip
            · have l0 := (HZ.out _ hxw).1.1
              have l1 := (HZ.out _ hxw).1.2.1
              have l2 := (HZ.out _ hxw).1.2.2
              have f0 := (HZ.out _ hxw).2.1
              have f1 := (HZ.out _ hxw).2.2.1
              have f2 := (HZ.out _ hxw).2.2.2
              clear hj
              go_simp
              try go_bits
              first | rfl | (rw [if_pos (by omega), if_pos (by omega)]; go_simp; rfl) | (rw [if_pos (by omega)]; go_simp; rfl) | skip
            · have l0 := (HZ.out _ hxw).1.1
              have l1 := (HZ.out _ hxw).1.2.1
              have l2 := (HZ.out _ hxw).1.2.2
              have f0 := (HZ.out _ hxw).2.1
              have f1 := (HZ.out _ hxw).2.2.1
              have f2 := (HZ.out _ hxw).2.2.2
              clear hj
              go_simp
              try go_bits
              first | rfl | (rw [if_pos (by omega), if_pos (by omega)]; go_simp; rfl) | (rw [if_pos (by omega)]; go_simp; rfl) | skip
          case' hx8_6_p =>
            intro vs w8 hx8 hk
            clear hk
            replace E := Ext.trans E hx8
            go_simp
            clear hx8
            go_wp2
            go_roundw
            case rel => exact ⟨k + 1, by omega, by go_num, fun q hq => by
              by_cases e : q = k
              · subst e; exact HK.out.1
              · exact HP.out.1 q (by omega), Ext.trans HP.out.2.2.1 E⟩
            case measure => simp [intOf]; omega
    · have hkn : k = n := by omega
      have HF := Lib.hid (isLab_sall HM.out.2.2.1 HM.out.2.2.2 (fun j hj => hp j (by rw [hkn, HM.out.2.1]; exact hj)))
      clear hp
      cases hb : (decide (1 ≤ L) && decide (L ≤ 3))
      · go_wp2_with fail
        with_reducible refine (l1In_lab _ _ _ _).mono ?_
        rintro e w' ⟨rfl, rfl⟩
        rw [hb]
        go_wp2
        go_ret
        exact ⟨lab_bool (by rw [HF.out, hb]; rfl), E⟩
      · go_wp2_with fail
        with_reducible refine (l1In_lab _ _ _ _).mono ?_
        rintro e w' ⟨rfl, rfl⟩
        rw [hb]
        go_wp2_with fail
        with_reducible refine (l1In_lab _ _ _ _).mono ?_
        rintro e w' ⟨rfl, rfl⟩
        go_wp2
        go_ret
        exact ⟨lab_bool (by rw [HF.out, hb]; rfl), E⟩
end Go.Proofs.Ytjfgbnihnnlneaa

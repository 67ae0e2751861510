/- Contracts: SameOnRings of both, where both codes fit. -/
import Derived.Test.YtfkdpeifnfpldaaSameA
namespace Go.Proofs.Ytfkdpeifnfpldaa
open Go.RowKit Go.Cm

set_option maxRecDepth 100000 in
set_option maxHeartbeats 4000000 in
theorem impl_SameOnRings_yes (K n n' m : Nat) (o o' : ByteArray) (w : World) (hcd : codeOk K n o = true) (hf : CodeFit K n o) (hcd' : codeOk K n' o' = true) (hf' : CodeFit K n' o') (hm1 : 1 ≤ m) (hm : m ≤ 6) :
    Calls Try.prog 38 #[.agg #[.int .i64 K, .int .i64 n, .string o], .agg #[.int .i64 K, .int .i64 n', .string o'], .int .i64 m] w fun e w' => e = .returned (.bool (sameR K n n' m o o')) ∧ Ext w w' := by
  have hk2 := hf.k2
  have hk3 := hf.k3
  have ho : o.size ≤ maxLen := by have := hf.size; have := hf.le; unfold maxLen; omega
  have ho' : o'.size ≤ maxLen := by have := hf'.size; have := hf'.le; unfold maxLen; omega
  have hM := pow_small6 hk3 hm
  have hMp : 0 < K ^ m := Nat.pow_pos (by omega)
  obtain ⟨b, hb⟩ : ∃ b, b = sameR K n n' m o o' := ⟨_, rfl⟩
  rw [← hb]
  obtain ⟨M, hMM⟩ : ∃ M, M = K ^ m := ⟨_, rfl⟩
  rw [← hMM] at hM hMp
  have hb' : b = (List.range M).all (sameW K n n' m o o') := by rw [hb, hMM]; rfl
  have HB := Lib.hid (And.intro hb' hMM)
  have HC := Lib.hid (And.intro hcd hcd')
  have hd1 : decide ((m : Int) < 1) = false := by simp; omega
  have hd2 : decide (6 < (m : Int)) = false := by simp; omega
  clear hb hb' hMM hcd hcd'
  go_enter Try.func38, Try.ntmps38
  go_wp2_with fail
  with_reducible refine (impl_IsCode_any _ _ _ _ ho).mono ?_
  rintro e w1 ⟨rfl, hx⟩
  rw [HC.out.1]
  have bo := (show Blk _ w.heap.size #[.int .i64 K, .int .i64 n, .string o] by (repeat (first | (refine Blk.mk' ?_; (simp; done)) | apply Blk.old))).ext hx
  have bo' := (show Blk _ (w.heap.size + 1) #[.int .i64 K, .int .i64 n', .string o'] by (repeat (first | (refine Blk.mk' ?_; (simp; done)) | apply Blk.old))).ext hx
  replace hx : Ext w w1 := Ext.trans (by (repeat (first | exact (Ext.refl w) | exact Ext.refl _ | exact Ext.alloc _ _ | refine Ext.alloced ?_ _ | (refine Ext.stored ?_ ?_; rotate_left; (· (first | (show _ ≤ _; omega) | (simp; done) | (simp; omega))))))) hx
  obtain ⟨c0, c1, c2, -, -, -⟩ := bo'.c3
  go_wp2_with fail
  with_reducible refine (impl_IsCode_any _ _ _ _ ho').mono ?_
  rintro e w2 ⟨rfl, hx2⟩
  rw [HC.out.2]
  replace hx := hx.trans hx2
  replace bo := bo.ext hx2
  replace bo' := bo'.ext hx2
  clear c0 c1 c2 hx2
  obtain ⟨c0, c1, c2, -, -, -⟩ := bo.c3
  obtain ⟨d0, d1, d2, -, -, -⟩ := bo'.c3
  go_wp2_with fail
  with_reducible refine (impl_wordsOf_any K m _ (by omega) hk3 (by omega) (by rw [← HB.out.2]; omega)).mono ?_
  rintro e w2 ⟨v35, rfl, hw, hx2⟩
  have hwl : (scells (wordsL K m)).length = M := by rw [HB.out.2]; simp [scells, wordsL]
  have hsh := hw.shape
  rw [hwl] at hsh
  rcases hsh with ⟨_, hnil⟩ | ⟨g, cap, rfl, hg, _, _, _⟩
  · exfalso
    rw [hnil] at hwl
    simp at hwl
    omega
  have HWL := Lib.hid hwl
  replace bo := bo.ext hx2
  replace bo' := bo'.ext hx2
  replace hx := hx.trans hx2
  clear hx2 hg c0 c1 c2 d0 d1 d2 hwl
  go_wp2
  go_loopw [37] (fun i wr => ∃ k : Nat, k ≤ M ∧ i = .int .i64 k ∧ AllTo (sameW K n n' m o o') k ∧ Ext w2 wr) (fun i _ => M - (intOf i).toNat)
  case atStart => exact ⟨0, by omega, rfl, AllTo.zero _, Ext.refl _⟩
  case round =>
    obtain ⟨k, hk, rfl, hall, hxr⟩ := hrel
    obtain ⟨c0, c1, c2, -, -, -⟩ := (bo.ext hxr).c3
    obtain ⟨d0, d1, d2, -, -, -⟩ := (bo'.ext hxr).c3
    by_cases hlt : k < M
    · obtain ⟨u, hu, hcell, hul, hua⟩ := wordsL_cell (i := k) (by omega) hk3 (hw.ext hxr) HB.out.2 hlt
      have hus : (mkS u).size = m := by rw [mkS_size, hul]
      have hsw : sameW K n n' m o o' k = ((mkS (ringL K n o u)).toList == (mkS (ringL K n' o' u)).toList) := by rw [twin_beq]; unfold sameW; rw [← hu]
      have hr1 := fun w => impl_ring_any K n o (mkS u) w hf (by omega) (by omega) (by rw [mkS_data]; exact hua)
      have hr2 := fun w => impl_ring_any K n' o' (mkS u) w hf' (by omega) (by omega) (by rw [mkS_data]; exact hua)
      rw [mkS_data] at hr1 hr2
      obtain ⟨X, hX⟩ : ∃ X, X = mkS (ringL K n o u) := ⟨_, rfl⟩
      obtain ⟨Y, hY⟩ : ∃ Y, Y = mkS (ringL K n' o' u) := ⟨_, rfl⟩
      rw [← hX] at hr1 hsw
      rw [← hY] at hr2 hsw
      obtain ⟨S, hS⟩ : ∃ S, S = mkS u := ⟨_, rfl⟩
      rw [← hS] at hr1 hr2 hcell
      have HR := Lib.hid (And.intro hr1 (And.intro hr2 hsw))
      clear hr1 hr2 hsw hX hY hS hus hu hul hua
      cases hxy : (X.toList == Y.toList) with
      | true =>
        go_wp2
        refine wp_region_inv (by kernel_rfl) (.known ?hx5_15_v0 :: .known ?hx5_15_v1 :: .known (.string X) :: .known ?hx5_15_v3 :: .known ?hx5_15_v4 :: .known (.string Y) :: .known ?hx5_15_v6 :: []) rfl (by kernel_rfl) ?hx5_15_s ?hx5_15_p
        case hx5_15_s =>
          intro vs
          refine ⟨fun w' hxw hj => ?_, fun w' hxw hj => ?_, fun w' hxw hj => ?_, fun w' hxw hj => ?_, fun w' hxw hj => ?_, fun w' hxw hj => ?_, fun w' hxw hj => ?_, trivial⟩
          · have c0 := Ext.cell_some hxw c0
            have c1 := Ext.cell_some hxw c1
            have c2 := Ext.cell_some hxw c2
            have d0 := Ext.cell_some hxw d0
            have d1 := Ext.cell_some hxw d1
            have d2 := Ext.cell_some hxw d2
            clear hj
            go_simp
            try go_bits
            first | rfl | (rw [if_pos (by omega), if_pos (by omega)]; go_simp; rfl) | (rw [if_pos (by omega)]; go_simp; rfl) | skip
          · have c0 := Ext.cell_some hxw c0
            have c1 := Ext.cell_some hxw c1
            have c2 := Ext.cell_some hxw c2
            have d0 := Ext.cell_some hxw d0
            have d1 := Ext.cell_some hxw d1
            have d2 := Ext.cell_some hxw d2
            clear hj
            go_simp
            try go_bits
            first | rfl | (rw [if_pos (by omega), if_pos (by omega)]; go_simp; rfl) | (rw [if_pos (by omega)]; go_simp; rfl) | skip
          · have c0 := Ext.cell_some hxw c0
            have c1 := Ext.cell_some hxw c1
            have c2 := Ext.cell_some hxw c2
            have d0 := Ext.cell_some hxw d0
            have d1 := Ext.cell_some hxw d1
            have d2 := Ext.cell_some hxw d2
            clear hj
            go_simp
            try go_bits
            exact HR.out.1 _
          · have c0 := Ext.cell_some hxw c0
            have c1 := Ext.cell_some hxw c1
            have c2 := Ext.cell_some hxw c2
            have d0 := Ext.cell_some hxw d0
            have d1 := Ext.cell_some hxw d1
            have d2 := Ext.cell_some hxw d2
            clear hj
            go_simp
            try go_bits
            first | rfl | (rw [if_pos (by omega), if_pos (by omega)]; go_simp; rfl) | (rw [if_pos (by omega)]; go_simp; rfl) | skip
          · have c0 := Ext.cell_some hxw c0
            have c1 := Ext.cell_some hxw c1
            have c2 := Ext.cell_some hxw c2
            have d0 := Ext.cell_some hxw d0
            have d1 := Ext.cell_some hxw d1
            have d2 := Ext.cell_some hxw d2
            clear hj
            go_simp
            try go_bits
            first | rfl | (rw [if_pos (by omega), if_pos (by omega)]; go_simp; rfl) | (rw [if_pos (by omega)]; go_simp; rfl) | skip
          · have c0 := Ext.cell_some hxw c0
            have c1 := Ext.cell_some hxw c1
            have c2 := Ext.cell_some hxw c2
            have d0 := Ext.cell_some hxw d0
            have d1 := Ext.cell_some hxw d1
            have d2 := Ext.cell_some hxw d2
            clear hj
            go_simp
            try go_bits
            exact HR.out.2.1 _
          · have c0 := Ext.cell_some hxw c0
            have c1 := Ext.cell_some hxw c1
            have c2 := Ext.cell_some hxw c2
            have d0 := Ext.cell_some hxw d0
            have d1 := Ext.cell_some hxw d1
            have d2 := Ext.cell_some hxw d2
            clear hj
            go_simp
            try go_bits
            first | rfl | (rw [if_pos (by omega), if_pos (by omega)]; go_simp; rfl) | (rw [if_pos (by omega)]; go_simp; rfl) | skip
        case' hx5_15_p =>
          intro vs w5 hx5 hk
          clear hk
          replace c0 := Ext.cell_some hx5 c0
          replace c1 := Ext.cell_some hx5 c1
          replace c2 := Ext.cell_some hx5 c2
          replace d0 := Ext.cell_some hx5 d0
          replace d1 := Ext.cell_some hx5 d1
          replace d2 := Ext.cell_some hx5 d2
          replace hxr := Ext.trans hxr hx5
          go_simp
          clear hx5 c0 c1 c2 d0 d1 d2
          go_wp2
          go_roundw
          case rel => exact ⟨k + 1, by omega, by go_num, hall.succ (by rw [HR.out.2.2]; exact hxy), hxr⟩
          case measure => simp [intOf]; omega
      | false =>
        have HBD := Lib.hid (AllTo.bad (p := sameW K n n' m o o') hlt (by rw [HR.out.2.2]; exact hxy))
        go_wp2
        refine wp_region_inv (by kernel_rfl) (.known ?hx5_16_v0 :: .known ?hx5_16_v1 :: .known (.string X) :: .known ?hx5_16_v3 :: .known ?hx5_16_v4 :: .known (.string Y) :: .known ?hx5_16_v6 :: []) rfl (by kernel_rfl) ?hx5_16_s ?hx5_16_p
        case hx5_16_s =>
          intro vs
          refine ⟨fun w' hxw hj => ?_, fun w' hxw hj => ?_, fun w' hxw hj => ?_, fun w' hxw hj => ?_, fun w' hxw hj => ?_, fun w' hxw hj => ?_, fun w' hxw hj => ?_, trivial⟩
          · have c0 := Ext.cell_some hxw c0
            have c1 := Ext.cell_some hxw c1
            have c2 := Ext.cell_some hxw c2
            have d0 := Ext.cell_some hxw d0
            have d1 := Ext.cell_some hxw d1
            have d2 := Ext.cell_some hxw d2
            clear hj
            go_simp
            try go_bits
            first | rfl | (rw [if_pos (by omega), if_pos (by omega)]; go_simp; rfl) | (rw [if_pos (by omega)]; go_simp; rfl) | skip
          · have c0 := Ext.cell_some hxw c0
            have c1 := Ext.cell_some hxw c1
            have c2 := Ext.cell_some hxw c2
            have d0 := Ext.cell_some hxw d0
            have d1 := Ext.cell_some hxw d1
            have d2 := Ext.cell_some hxw d2
            clear hj
            go_simp
            try go_bits
            first | rfl | (rw [if_pos (by omega), if_pos (by omega)]; go_simp; rfl) | (rw [if_pos (by omega)]; go_simp; rfl) | skip
          · have c0 := Ext.cell_some hxw c0
            have c1 := Ext.cell_some hxw c1
            have c2 := Ext.cell_some hxw c2
            have d0 := Ext.cell_some hxw d0
            have d1 := Ext.cell_some hxw d1
            have d2 := Ext.cell_some hxw d2
            clear hj
            go_simp
            try go_bits
            exact HR.out.1 _
          · have c0 := Ext.cell_some hxw c0
            have c1 := Ext.cell_some hxw c1
            have c2 := Ext.cell_some hxw c2
            have d0 := Ext.cell_some hxw d0
            have d1 := Ext.cell_some hxw d1
            have d2 := Ext.cell_some hxw d2
            clear hj
            go_simp
            try go_bits
            first | rfl | (rw [if_pos (by omega), if_pos (by omega)]; go_simp; rfl) | (rw [if_pos (by omega)]; go_simp; rfl) | skip
          · have c0 := Ext.cell_some hxw c0
            have c1 := Ext.cell_some hxw c1
            have c2 := Ext.cell_some hxw c2
            have d0 := Ext.cell_some hxw d0
            have d1 := Ext.cell_some hxw d1
            have d2 := Ext.cell_some hxw d2
            clear hj
            go_simp
            try go_bits
            first | rfl | (rw [if_pos (by omega), if_pos (by omega)]; go_simp; rfl) | (rw [if_pos (by omega)]; go_simp; rfl) | skip
          · have c0 := Ext.cell_some hxw c0
            have c1 := Ext.cell_some hxw c1
            have c2 := Ext.cell_some hxw c2
            have d0 := Ext.cell_some hxw d0
            have d1 := Ext.cell_some hxw d1
            have d2 := Ext.cell_some hxw d2
            clear hj
            go_simp
            try go_bits
            exact HR.out.2.1 _
          · have c0 := Ext.cell_some hxw c0
            have c1 := Ext.cell_some hxw c1
            have c2 := Ext.cell_some hxw c2
            have d0 := Ext.cell_some hxw d0
            have d1 := Ext.cell_some hxw d1
            have d2 := Ext.cell_some hxw d2
            clear hj
            go_simp
            try go_bits
            first | rfl | (rw [if_pos (by omega), if_pos (by omega)]; go_simp; rfl) | (rw [if_pos (by omega)]; go_simp; rfl) | skip
        case' hx5_16_p =>
          intro vs w5 hx5 hk
          clear hk
          replace c0 := Ext.cell_some hx5 c0
          replace c1 := Ext.cell_some hx5 c1
          replace c2 := Ext.cell_some hx5 c2
          replace d0 := Ext.cell_some hx5 d0
          replace d1 := Ext.cell_some hx5 d1
          replace d2 := Ext.cell_some hx5 d2
          replace hxr := Ext.trans hxr hx5
          go_simp
          clear hx5 c0 c1 c2 d0 d1 d2
          go_wp2
          go_ret
          exact ⟨ret_bool (by rw [HB.out.1, HBD.out]), hx.trans hxr⟩
    · have hkM : k = M := by omega
      subst hkM
      go_wp2
      go_ret
      exact ⟨ret_bool (by rw [HB.out.1, hall.all]), hx.trans hxr⟩

set_option maxRecDepth 100000 in
set_option maxHeartbeats 4000000 in
theorem spec_SameOnRings_yes (K n n' m : Nat) (o o' : ByteArray) (w : World) (hcd : codeOk K n o = true) (hf : CodeFit K n o) (hcd' : codeOk K n' o' = true) (hf' : CodeFit K n' o') (hm1 : 1 ≤ m) (hm : m ≤ 6) :
    Calls Try.prog 39 #[.agg #[.int .i64 K, .int .i64 n, .string o], .agg #[.int .i64 K, .int .i64 n', .string o'], .int .i64 m] w fun e w' => e = .returned (.bool (sameR K n n' m o o')) ∧ Ext w w' := by
  have hk2 := hf.k2
  have hk3 := hf.k3
  have ho : o.size ≤ maxLen := by have := hf.size; have := hf.le; unfold maxLen; omega
  have ho' : o'.size ≤ maxLen := by have := hf'.size; have := hf'.le; unfold maxLen; omega
  have hM := pow_small6 hk3 hm
  have hMp : 0 < K ^ m := Nat.pow_pos (by omega)
  obtain ⟨b, hb⟩ : ∃ b, b = sameR K n n' m o o' := ⟨_, rfl⟩
  rw [← hb]
  obtain ⟨M, hMM⟩ : ∃ M, M = K ^ m := ⟨_, rfl⟩
  rw [← hMM] at hM hMp
  have hb' : b = (List.range M).all (sameW K n n' m o o') := by rw [hb, hMM]; rfl
  have HB := Lib.hid (And.intro hb' hMM)
  have HC := Lib.hid (And.intro hcd hcd')
  clear hb hb' hMM hcd hcd'
  go_enter Try.func39, Try.ntmps39
  go_wp2_with fail
  with_reducible refine (spec_IsCode_any _ _ _ _ ho).mono ?_
  rintro e w1 ⟨rfl, hx⟩
  rw [HC.out.1]
  have bo := (show Blk _ w.heap.size #[.int .i64 K, .int .i64 n, .string o] by (repeat (first | (refine Blk.mk' ?_; (simp; done)) | apply Blk.old))).ext hx
  have bo' := (show Blk _ (w.heap.size + 1) #[.int .i64 K, .int .i64 n', .string o'] by (repeat (first | (refine Blk.mk' ?_; (simp; done)) | apply Blk.old))).ext hx
  replace hx : Ext w w1 := Ext.trans (by (repeat (first | exact (Ext.refl w) | exact Ext.refl _ | exact Ext.alloc _ _ | refine Ext.alloced ?_ _ | (refine Ext.stored ?_ ?_; rotate_left; (· (first | (show _ ≤ _; omega) | (simp; done) | (simp; omega))))))) hx
  obtain ⟨c0, c1, c2, -, -, -⟩ := bo'.c3
  go_wp2_with fail
  with_reducible refine (spec_IsCode_any _ _ _ _ ho').mono ?_
  rintro e w2 ⟨rfl, hx2⟩
  rw [HC.out.2]
  replace hx := hx.trans hx2
  replace bo := bo.ext hx2
  replace bo' := bo'.ext hx2
  clear c0 c1 c2 hx2
  obtain ⟨c0, c1, c2, -, -, -⟩ := bo.c3
  obtain ⟨d0, d1, d2, -, -, -⟩ := bo'.c3
  go_wp2_with fail
  with_reducible refine (spec_l1In_yes (m : Int) 1 6 _ (by omega) (by omega)).mono ?_
  rintro e w3 ⟨rfl, rfl⟩
  go_wp2_with fail
  with_reducible refine (spec_l2All_any K m _ (by omega) hk3 (by omega)).mono ?_
  rintro e w2 ⟨v7, rfl, hw, hx2⟩
  have hwl : (scells (wordsL K m)).length = M := by rw [HB.out.2]; simp [scells, wordsL]
  have hsh := hw.shape
  rw [hwl] at hsh
  rcases hsh with ⟨_, hnil⟩ | ⟨g, cap, rfl, hg, _, _, _⟩
  · exfalso
    rw [hnil] at hwl
    simp at hwl
    omega
  have HWL := Lib.hid hwl
  replace bo := bo.ext hx2
  replace bo' := bo'.ext hx2
  replace hx := hx.trans hx2
  clear hx2 hg c0 c1 c2 d0 d1 d2 hwl
  go_wp2
  go_loopw [8] (fun i wr => ∃ k : Nat, k ≤ M ∧ i = .int .i64 k ∧ AllTo (sameW K n n' m o o') k ∧ Ext w2 wr) (fun i _ => M - (intOf i).toNat)
  case atStart => exact ⟨0, by omega, rfl, AllTo.zero _, Ext.refl _⟩
  case round =>
    obtain ⟨k, hk, rfl, hall, hxr⟩ := hrel
    obtain ⟨c0, c1, c2, -, -, -⟩ := (bo.ext hxr).c3
    obtain ⟨d0, d1, d2, -, -, -⟩ := (bo'.ext hxr).c3
    by_cases hlt : k < M
    · obtain ⟨u, hu, hcell, hul, hua⟩ := wordsL_cell (i := k) (by omega) hk3 (hw.ext hxr) HB.out.2 hlt
      have hus : (mkS u).size = m := by rw [mkS_size, hul]
      have hwd : wordOk K (mkS u) = true := by
        have h16 : (mkS u).size ≤ 16 := by omega
        simp [wordOk, mkS_data, hua, h16]
        omega
      have hsw : sameW K n n' m o o' k = ((mkS (ringL K n o u)).toList == (mkS (ringL K n' o' u)).toList) := by rw [twin_beq]; unfold sameW; rw [← hu]
      have hr1 := fun w => spec_ApplyRing_yes K n o (mkS u) w HC.out.1 hf hwd (by omega)
      have hr2 := fun w => spec_ApplyRing_yes K n' o' (mkS u) w HC.out.2 hf' hwd (by omega)
      rw [mkS_data] at hr1 hr2
      obtain ⟨X, hX⟩ : ∃ X, X = mkS (ringL K n o u) := ⟨_, rfl⟩
      obtain ⟨Y, hY⟩ : ∃ Y, Y = mkS (ringL K n' o' u) := ⟨_, rfl⟩
      rw [← hX] at hr1 hsw
      rw [← hY] at hr2 hsw
      obtain ⟨S, hS⟩ : ∃ S, S = mkS u := ⟨_, rfl⟩
      rw [← hS] at hr1 hr2 hcell
      have HR := Lib.hid (And.intro hr1 (And.intro hr2 hsw))
      clear hr1 hr2 hsw hX hY hS hus hu hul hua hwd
      cases hxy : (X.toList == Y.toList) with
      | true =>
        go_wp2
        refine wp_region_inv (by kernel_rfl) (.known ?hx5_17_v0 :: .known ?hx5_17_v1 :: .known ?hx5_17_v2 :: .known ?hx5_17_v3 :: .known ?hx5_17_v4 :: .known (.tuple #[.string X, .bool true]) :: .known ?hx5_17_v6 :: .known ?hx5_17_v7 :: .known ?hx5_17_v8 :: .known ?hx5_17_v9 :: .known ?hx5_17_v10 :: []) rfl (by kernel_rfl) ?hx5_17_s ?hx5_17_p
        case hx5_17_s =>
          intro vs
          refine ⟨fun w' hxw hj => ?_, fun w' hxw hj => ?_, fun w' hxw hj => ?_, fun w' hxw hj => ?_, fun w' hxw hj => ?_, fun w' hxw hj => ?_, fun w' hxw hj => ?_, fun w' hxw hj => ?_, fun w' hxw hj => ?_, fun w' hxw hj => ?_, fun w' hxw hj => ?_, trivial⟩
          · have c0 := Ext.cell_some hxw c0
            have c1 := Ext.cell_some hxw c1
            have c2 := Ext.cell_some hxw c2
            have d0 := Ext.cell_some hxw d0
            have d1 := Ext.cell_some hxw d1
            have d2 := Ext.cell_some hxw d2
            have hcell := Ext.cell_some hxw hcell
            clear hj
            go_simp
            try go_bits
            first | rfl | (rw [if_pos (by omega), if_pos (by omega)]; go_simp; rfl) | (rw [if_pos (by omega)]; go_simp; rfl) | skip
          · have c0 := Ext.cell_some hxw c0
            have c1 := Ext.cell_some hxw c1
            have c2 := Ext.cell_some hxw c2
            have d0 := Ext.cell_some hxw d0
            have d1 := Ext.cell_some hxw d1
            have d2 := Ext.cell_some hxw d2
            have hcell := Ext.cell_some hxw hcell
            clear hj
            go_simp
            try go_bits
            first | rfl | (rw [if_pos (by omega), if_pos (by omega)]; go_simp; rfl) | (rw [if_pos (by omega)]; go_simp; rfl) | skip
          · have c0 := Ext.cell_some hxw c0
            have c1 := Ext.cell_some hxw c1
            have c2 := Ext.cell_some hxw c2
            have d0 := Ext.cell_some hxw d0
            have d1 := Ext.cell_some hxw d1
            have d2 := Ext.cell_some hxw d2
            have hcell := Ext.cell_some hxw hcell
            clear hj
            go_simp
            try go_bits
            first | rfl | (rw [if_pos (by omega), if_pos (by omega)]; go_simp; rfl) | (rw [if_pos (by omega)]; go_simp; rfl) | skip
          · have c0 := Ext.cell_some hxw c0
            have c1 := Ext.cell_some hxw c1
            have c2 := Ext.cell_some hxw c2
            have d0 := Ext.cell_some hxw d0
            have d1 := Ext.cell_some hxw d1
            have d2 := Ext.cell_some hxw d2
            have hcell := Ext.cell_some hxw hcell
            clear hj
            go_simp
            try go_bits
            first | rfl | (rw [if_pos (by omega), if_pos (by omega)]; go_simp; rfl) | (rw [if_pos (by omega)]; go_simp; rfl) | skip
          · have c0 := Ext.cell_some hxw c0
            have c1 := Ext.cell_some hxw c1
            have c2 := Ext.cell_some hxw c2
            have d0 := Ext.cell_some hxw d0
            have d1 := Ext.cell_some hxw d1
            have d2 := Ext.cell_some hxw d2
            have hcell := Ext.cell_some hxw hcell
            clear hj
            go_simp
            try go_bits
            first | rfl | (rw [if_pos (by omega), if_pos (by omega)]; go_simp; rfl) | (rw [if_pos (by omega)]; go_simp; rfl) | skip
          · have c0 := Ext.cell_some hxw c0
            have c1 := Ext.cell_some hxw c1
            have c2 := Ext.cell_some hxw c2
            have d0 := Ext.cell_some hxw d0
            have d1 := Ext.cell_some hxw d1
            have d2 := Ext.cell_some hxw d2
            have hcell := Ext.cell_some hxw hcell
            clear hj
            go_simp
            try go_bits
            exact HR.out.1 _
          · have c0 := Ext.cell_some hxw c0
            have c1 := Ext.cell_some hxw c1
            have c2 := Ext.cell_some hxw c2
            have d0 := Ext.cell_some hxw d0
            have d1 := Ext.cell_some hxw d1
            have d2 := Ext.cell_some hxw d2
            have hcell := Ext.cell_some hxw hcell
            clear hj
            go_simp
            try go_bits
            first | rfl | (rw [if_pos (by omega), if_pos (by omega)]; go_simp; rfl) | (rw [if_pos (by omega)]; go_simp; rfl) | skip
          · have c0 := Ext.cell_some hxw c0
            have c1 := Ext.cell_some hxw c1
            have c2 := Ext.cell_some hxw c2
            have d0 := Ext.cell_some hxw d0
            have d1 := Ext.cell_some hxw d1
            have d2 := Ext.cell_some hxw d2
            have hcell := Ext.cell_some hxw hcell
            clear hj
            go_simp
            try go_bits
            first | rfl | (rw [if_pos (by omega), if_pos (by omega)]; go_simp; rfl) | (rw [if_pos (by omega)]; go_simp; rfl) | skip
          · have c0 := Ext.cell_some hxw c0
            have c1 := Ext.cell_some hxw c1
            have c2 := Ext.cell_some hxw c2
            have d0 := Ext.cell_some hxw d0
            have d1 := Ext.cell_some hxw d1
            have d2 := Ext.cell_some hxw d2
            have hcell := Ext.cell_some hxw hcell
            clear hj
            go_simp
            try go_bits
            first | rfl | (rw [if_pos (by omega), if_pos (by omega)]; go_simp; rfl) | (rw [if_pos (by omega)]; go_simp; rfl) | skip
          · have c0 := Ext.cell_some hxw c0
            have c1 := Ext.cell_some hxw c1
            have c2 := Ext.cell_some hxw c2
            have d0 := Ext.cell_some hxw d0
            have d1 := Ext.cell_some hxw d1
            have d2 := Ext.cell_some hxw d2
            have hcell := Ext.cell_some hxw hcell
            clear hj
            go_simp
            try go_bits
            first | rfl | (rw [if_pos (by omega), if_pos (by omega)]; go_simp; rfl) | (rw [if_pos (by omega)]; go_simp; rfl) | skip
          · have c0 := Ext.cell_some hxw c0
            have c1 := Ext.cell_some hxw c1
            have c2 := Ext.cell_some hxw c2
            have d0 := Ext.cell_some hxw d0
            have d1 := Ext.cell_some hxw d1
            have d2 := Ext.cell_some hxw d2
            have hcell := Ext.cell_some hxw hcell
            clear hj
            go_simp
            try go_bits
            first | rfl | (rw [if_pos (by omega), if_pos (by omega)]; go_simp; rfl) | (rw [if_pos (by omega)]; go_simp; rfl) | skip
        case' hx5_17_p =>
          intro vs w5 hx5 hk
          clear hk
          replace c0 := Ext.cell_some hx5 c0
          replace c1 := Ext.cell_some hx5 c1
          replace c2 := Ext.cell_some hx5 c2
          replace d0 := Ext.cell_some hx5 d0
          replace d1 := Ext.cell_some hx5 d1
          replace d2 := Ext.cell_some hx5 d2
          replace hcell := Ext.cell_some hx5 hcell
          replace hxr := Ext.trans hxr hx5
          go_simp
          clear hx5
          go_wp2
          refine wp_region_inv (by kernel_rfl) (.known ?hx6_18_v0 :: .known ?hx6_18_v1 :: .known ?hx6_18_v2 :: .known ?hx6_18_v3 :: .known ?hx6_18_v4 :: .known (.tuple #[.string Y, .bool true]) :: .known ?hx6_18_v6 :: .known ?hx6_18_v7 :: .known ?hx6_18_v8 :: .known ?hx6_18_v9 :: .known ?hx6_18_v10 :: []) rfl (by kernel_rfl) ?hx6_18_s ?hx6_18_p
          case hx6_18_s =>
            intro vs
            refine ⟨fun w' hxw hj => ?_, fun w' hxw hj => ?_, fun w' hxw hj => ?_, fun w' hxw hj => ?_, fun w' hxw hj => ?_, fun w' hxw hj => ?_, fun w' hxw hj => ?_, fun w' hxw hj => ?_, fun w' hxw hj => ?_, fun w' hxw hj => ?_, fun w' hxw hj => ?_, trivial⟩
            · have c0 := Ext.cell_some hxw c0
              have c1 := Ext.cell_some hxw c1
              have c2 := Ext.cell_some hxw c2
              have d0 := Ext.cell_some hxw d0
              have d1 := Ext.cell_some hxw d1
              have d2 := Ext.cell_some hxw d2
              have hcell := Ext.cell_some hxw hcell
              clear hj
              go_simp
              try go_bits
              first | rfl | (rw [if_pos (by omega), if_pos (by omega)]; go_simp; rfl) | (rw [if_pos (by omega)]; go_simp; rfl) | skip
            · have c0 := Ext.cell_some hxw c0
              have c1 := Ext.cell_some hxw c1
              have c2 := Ext.cell_some hxw c2
              have d0 := Ext.cell_some hxw d0
              have d1 := Ext.cell_some hxw d1
              have d2 := Ext.cell_some hxw d2
              have hcell := Ext.cell_some hxw hcell
              clear hj
              go_simp
              try go_bits
              first | rfl | (rw [if_pos (by omega), if_pos (by omega)]; go_simp; rfl) | (rw [if_pos (by omega)]; go_simp; rfl) | skip
            · have c0 := Ext.cell_some hxw c0
              have c1 := Ext.cell_some hxw c1
              have c2 := Ext.cell_some hxw c2
              have d0 := Ext.cell_some hxw d0
              have d1 := Ext.cell_some hxw d1
              have d2 := Ext.cell_some hxw d2
              have hcell := Ext.cell_some hxw hcell
              clear hj
              go_simp
              try go_bits
              first | rfl | (rw [if_pos (by omega), if_pos (by omega)]; go_simp; rfl) | (rw [if_pos (by omega)]; go_simp; rfl) | skip
            · have c0 := Ext.cell_some hxw c0
              have c1 := Ext.cell_some hxw c1
              have c2 := Ext.cell_some hxw c2
              have d0 := Ext.cell_some hxw d0
              have d1 := Ext.cell_some hxw d1
              have d2 := Ext.cell_some hxw d2
              have hcell := Ext.cell_some hxw hcell
              clear hj
              go_simp
              try go_bits
              first | rfl | (rw [if_pos (by omega), if_pos (by omega)]; go_simp; rfl) | (rw [if_pos (by omega)]; go_simp; rfl) | skip
            · have c0 := Ext.cell_some hxw c0
              have c1 := Ext.cell_some hxw c1
              have c2 := Ext.cell_some hxw c2
              have d0 := Ext.cell_some hxw d0
              have d1 := Ext.cell_some hxw d1
              have d2 := Ext.cell_some hxw d2
              have hcell := Ext.cell_some hxw hcell
              clear hj
              go_simp
              try go_bits
              first | rfl | (rw [if_pos (by omega), if_pos (by omega)]; go_simp; rfl) | (rw [if_pos (by omega)]; go_simp; rfl) | skip
            · have c0 := Ext.cell_some hxw c0
              have c1 := Ext.cell_some hxw c1
              have c2 := Ext.cell_some hxw c2
              have d0 := Ext.cell_some hxw d0
              have d1 := Ext.cell_some hxw d1
              have d2 := Ext.cell_some hxw d2
              have hcell := Ext.cell_some hxw hcell
              clear hj
              go_simp
              try go_bits
              exact HR.out.2.1 _
            · have c0 := Ext.cell_some hxw c0
              have c1 := Ext.cell_some hxw c1
              have c2 := Ext.cell_some hxw c2
              have d0 := Ext.cell_some hxw d0
              have d1 := Ext.cell_some hxw d1
              have d2 := Ext.cell_some hxw d2
              have hcell := Ext.cell_some hxw hcell
              clear hj
              go_simp
              try go_bits
              first | rfl | (rw [if_pos (by omega), if_pos (by omega)]; go_simp; rfl) | (rw [if_pos (by omega)]; go_simp; rfl) | skip
            · have c0 := Ext.cell_some hxw c0
              have c1 := Ext.cell_some hxw c1
              have c2 := Ext.cell_some hxw c2
              have d0 := Ext.cell_some hxw d0
              have d1 := Ext.cell_some hxw d1
              have d2 := Ext.cell_some hxw d2
              have hcell := Ext.cell_some hxw hcell
              clear hj
              go_simp
              try go_bits
              first | rfl | (rw [if_pos (by omega), if_pos (by omega)]; go_simp; rfl) | (rw [if_pos (by omega)]; go_simp; rfl) | skip
            · have c0 := Ext.cell_some hxw c0
              have c1 := Ext.cell_some hxw c1
              have c2 := Ext.cell_some hxw c2
              have d0 := Ext.cell_some hxw d0
              have d1 := Ext.cell_some hxw d1
              have d2 := Ext.cell_some hxw d2
              have hcell := Ext.cell_some hxw hcell
              clear hj
              go_simp
              try go_bits
              first | rfl | (rw [if_pos (by omega), if_pos (by omega)]; go_simp; rfl) | (rw [if_pos (by omega)]; go_simp; rfl) | skip
            · have c0 := Ext.cell_some hxw c0
              have c1 := Ext.cell_some hxw c1
              have c2 := Ext.cell_some hxw c2
              have d0 := Ext.cell_some hxw d0
              have d1 := Ext.cell_some hxw d1
              have d2 := Ext.cell_some hxw d2
              have hcell := Ext.cell_some hxw hcell
              clear hj
              go_simp
              try go_bits
              first | rfl | (rw [if_pos (by omega), if_pos (by omega)]; go_simp; rfl) | (rw [if_pos (by omega)]; go_simp; rfl) | skip
            · have c0 := Ext.cell_some hxw c0
              have c1 := Ext.cell_some hxw c1
              have c2 := Ext.cell_some hxw c2
              have d0 := Ext.cell_some hxw d0
              have d1 := Ext.cell_some hxw d1
              have d2 := Ext.cell_some hxw d2
              have hcell := Ext.cell_some hxw hcell
              clear hj
              go_simp
              try go_bits
              first | rfl | (rw [if_pos (by omega), if_pos (by omega)]; go_simp; rfl) | (rw [if_pos (by omega)]; go_simp; rfl) | skip
          case' hx6_18_p =>
            intro vs w6 hx6 hk
            clear hk
            replace c0 := Ext.cell_some hx6 c0
            replace c1 := Ext.cell_some hx6 c1
            replace c2 := Ext.cell_some hx6 c2
            replace d0 := Ext.cell_some hx6 d0
            replace d1 := Ext.cell_some hx6 d1
            replace d2 := Ext.cell_some hx6 d2
            replace hcell := Ext.cell_some hx6 hcell
            replace hxr := Ext.trans hxr hx6
            go_simp
            clear hx6 c0 c1 c2 d0 d1 d2 hcell
            go_wp2
            go_roundw
            case rel => exact ⟨k + 1, by omega, by go_num, hall.succ (by rw [HR.out.2.2]; exact hxy), hxr⟩
            case measure => simp [intOf]; omega
      | false =>
        have HBD := Lib.hid (AllTo.bad (p := sameW K n n' m o o') hlt (by rw [HR.out.2.2]; exact hxy))
        go_wp2
        refine wp_region_inv (by kernel_rfl) (.known ?hx5_19_v0 :: .known ?hx5_19_v1 :: .known ?hx5_19_v2 :: .known ?hx5_19_v3 :: .known ?hx5_19_v4 :: .known (.tuple #[.string X, .bool true]) :: .known ?hx5_19_v6 :: .known ?hx5_19_v7 :: .known ?hx5_19_v8 :: .known ?hx5_19_v9 :: .known ?hx5_19_v10 :: []) rfl (by kernel_rfl) ?hx5_19_s ?hx5_19_p
        case hx5_19_s =>
          intro vs
          refine ⟨fun w' hxw hj => ?_, fun w' hxw hj => ?_, fun w' hxw hj => ?_, fun w' hxw hj => ?_, fun w' hxw hj => ?_, fun w' hxw hj => ?_, fun w' hxw hj => ?_, fun w' hxw hj => ?_, fun w' hxw hj => ?_, fun w' hxw hj => ?_, fun w' hxw hj => ?_, trivial⟩
          · have c0 := Ext.cell_some hxw c0
            have c1 := Ext.cell_some hxw c1
            have c2 := Ext.cell_some hxw c2
            have d0 := Ext.cell_some hxw d0
            have d1 := Ext.cell_some hxw d1
            have d2 := Ext.cell_some hxw d2
            have hcell := Ext.cell_some hxw hcell
            clear hj
            go_simp
            try go_bits
            first | rfl | (rw [if_pos (by omega), if_pos (by omega)]; go_simp; rfl) | (rw [if_pos (by omega)]; go_simp; rfl) | skip
          · have c0 := Ext.cell_some hxw c0
            have c1 := Ext.cell_some hxw c1
            have c2 := Ext.cell_some hxw c2
            have d0 := Ext.cell_some hxw d0
            have d1 := Ext.cell_some hxw d1
            have d2 := Ext.cell_some hxw d2
            have hcell := Ext.cell_some hxw hcell
            clear hj
            go_simp
            try go_bits
            first | rfl | (rw [if_pos (by omega), if_pos (by omega)]; go_simp; rfl) | (rw [if_pos (by omega)]; go_simp; rfl) | skip
          · have c0 := Ext.cell_some hxw c0
            have c1 := Ext.cell_some hxw c1
            have c2 := Ext.cell_some hxw c2
            have d0 := Ext.cell_some hxw d0
            have d1 := Ext.cell_some hxw d1
            have d2 := Ext.cell_some hxw d2
            have hcell := Ext.cell_some hxw hcell
            clear hj
            go_simp
            try go_bits
            first | rfl | (rw [if_pos (by omega), if_pos (by omega)]; go_simp; rfl) | (rw [if_pos (by omega)]; go_simp; rfl) | skip
          · have c0 := Ext.cell_some hxw c0
            have c1 := Ext.cell_some hxw c1
            have c2 := Ext.cell_some hxw c2
            have d0 := Ext.cell_some hxw d0
            have d1 := Ext.cell_some hxw d1
            have d2 := Ext.cell_some hxw d2
            have hcell := Ext.cell_some hxw hcell
            clear hj
            go_simp
            try go_bits
            first | rfl | (rw [if_pos (by omega), if_pos (by omega)]; go_simp; rfl) | (rw [if_pos (by omega)]; go_simp; rfl) | skip
          · have c0 := Ext.cell_some hxw c0
            have c1 := Ext.cell_some hxw c1
            have c2 := Ext.cell_some hxw c2
            have d0 := Ext.cell_some hxw d0
            have d1 := Ext.cell_some hxw d1
            have d2 := Ext.cell_some hxw d2
            have hcell := Ext.cell_some hxw hcell
            clear hj
            go_simp
            try go_bits
            first | rfl | (rw [if_pos (by omega), if_pos (by omega)]; go_simp; rfl) | (rw [if_pos (by omega)]; go_simp; rfl) | skip
          · have c0 := Ext.cell_some hxw c0
            have c1 := Ext.cell_some hxw c1
            have c2 := Ext.cell_some hxw c2
            have d0 := Ext.cell_some hxw d0
            have d1 := Ext.cell_some hxw d1
            have d2 := Ext.cell_some hxw d2
            have hcell := Ext.cell_some hxw hcell
            clear hj
            go_simp
            try go_bits
            exact HR.out.1 _
          · have c0 := Ext.cell_some hxw c0
            have c1 := Ext.cell_some hxw c1
            have c2 := Ext.cell_some hxw c2
            have d0 := Ext.cell_some hxw d0
            have d1 := Ext.cell_some hxw d1
            have d2 := Ext.cell_some hxw d2
            have hcell := Ext.cell_some hxw hcell
            clear hj
            go_simp
            try go_bits
            first | rfl | (rw [if_pos (by omega), if_pos (by omega)]; go_simp; rfl) | (rw [if_pos (by omega)]; go_simp; rfl) | skip
          · have c0 := Ext.cell_some hxw c0
            have c1 := Ext.cell_some hxw c1
            have c2 := Ext.cell_some hxw c2
            have d0 := Ext.cell_some hxw d0
            have d1 := Ext.cell_some hxw d1
            have d2 := Ext.cell_some hxw d2
            have hcell := Ext.cell_some hxw hcell
            clear hj
            go_simp
            try go_bits
            first | rfl | (rw [if_pos (by omega), if_pos (by omega)]; go_simp; rfl) | (rw [if_pos (by omega)]; go_simp; rfl) | skip
          · have c0 := Ext.cell_some hxw c0
            have c1 := Ext.cell_some hxw c1
            have c2 := Ext.cell_some hxw c2
            have d0 := Ext.cell_some hxw d0
            have d1 := Ext.cell_some hxw d1
            have d2 := Ext.cell_some hxw d2
            have hcell := Ext.cell_some hxw hcell
            clear hj
            go_simp
            try go_bits
            first | rfl | (rw [if_pos (by omega), if_pos (by omega)]; go_simp; rfl) | (rw [if_pos (by omega)]; go_simp; rfl) | skip
          · have c0 := Ext.cell_some hxw c0
            have c1 := Ext.cell_some hxw c1
            have c2 := Ext.cell_some hxw c2
            have d0 := Ext.cell_some hxw d0
            have d1 := Ext.cell_some hxw d1
            have d2 := Ext.cell_some hxw d2
            have hcell := Ext.cell_some hxw hcell
            clear hj
            go_simp
            try go_bits
            first | rfl | (rw [if_pos (by omega), if_pos (by omega)]; go_simp; rfl) | (rw [if_pos (by omega)]; go_simp; rfl) | skip
          · have c0 := Ext.cell_some hxw c0
            have c1 := Ext.cell_some hxw c1
            have c2 := Ext.cell_some hxw c2
            have d0 := Ext.cell_some hxw d0
            have d1 := Ext.cell_some hxw d1
            have d2 := Ext.cell_some hxw d2
            have hcell := Ext.cell_some hxw hcell
            clear hj
            go_simp
            try go_bits
            first | rfl | (rw [if_pos (by omega), if_pos (by omega)]; go_simp; rfl) | (rw [if_pos (by omega)]; go_simp; rfl) | skip
        case' hx5_19_p =>
          intro vs w5 hx5 hk
          clear hk
          replace c0 := Ext.cell_some hx5 c0
          replace c1 := Ext.cell_some hx5 c1
          replace c2 := Ext.cell_some hx5 c2
          replace d0 := Ext.cell_some hx5 d0
          replace d1 := Ext.cell_some hx5 d1
          replace d2 := Ext.cell_some hx5 d2
          replace hcell := Ext.cell_some hx5 hcell
          replace hxr := Ext.trans hxr hx5
          go_simp
          clear hx5
          go_wp2
          refine wp_region_inv (by kernel_rfl) (.known ?hx6_20_v0 :: .known ?hx6_20_v1 :: .known ?hx6_20_v2 :: .known ?hx6_20_v3 :: .known ?hx6_20_v4 :: .known (.tuple #[.string Y, .bool true]) :: .known ?hx6_20_v6 :: .known ?hx6_20_v7 :: .known ?hx6_20_v8 :: .known ?hx6_20_v9 :: .known ?hx6_20_v10 :: []) rfl (by kernel_rfl) ?hx6_20_s ?hx6_20_p
          case hx6_20_s =>
            intro vs
            refine ⟨fun w' hxw hj => ?_, fun w' hxw hj => ?_, fun w' hxw hj => ?_, fun w' hxw hj => ?_, fun w' hxw hj => ?_, fun w' hxw hj => ?_, fun w' hxw hj => ?_, fun w' hxw hj => ?_, fun w' hxw hj => ?_, fun w' hxw hj => ?_, fun w' hxw hj => ?_, trivial⟩
            · have c0 := Ext.cell_some hxw c0
              have c1 := Ext.cell_some hxw c1
              have c2 := Ext.cell_some hxw c2
              have d0 := Ext.cell_some hxw d0
              have d1 := Ext.cell_some hxw d1
              have d2 := Ext.cell_some hxw d2
              have hcell := Ext.cell_some hxw hcell
              clear hj
              go_simp
              try go_bits
              first | rfl | (rw [if_pos (by omega), if_pos (by omega)]; go_simp; rfl) | (rw [if_pos (by omega)]; go_simp; rfl) | skip
            · have c0 := Ext.cell_some hxw c0
              have c1 := Ext.cell_some hxw c1
              have c2 := Ext.cell_some hxw c2
              have d0 := Ext.cell_some hxw d0
              have d1 := Ext.cell_some hxw d1
              have d2 := Ext.cell_some hxw d2
              have hcell := Ext.cell_some hxw hcell
              clear hj
              go_simp
              try go_bits
              first | rfl | (rw [if_pos (by omega), if_pos (by omega)]; go_simp; rfl) | (rw [if_pos (by omega)]; go_simp; rfl) | skip
            · have c0 := Ext.cell_some hxw c0
              have c1 := Ext.cell_some hxw c1
              have c2 := Ext.cell_some hxw c2
              have d0 := Ext.cell_some hxw d0
              have d1 := Ext.cell_some hxw d1
              have d2 := Ext.cell_some hxw d2
              have hcell := Ext.cell_some hxw hcell
              clear hj
              go_simp
              try go_bits
              first | rfl | (rw [if_pos (by omega), if_pos (by omega)]; go_simp; rfl) | (rw [if_pos (by omega)]; go_simp; rfl) | skip
            · have c0 := Ext.cell_some hxw c0
              have c1 := Ext.cell_some hxw c1
              have c2 := Ext.cell_some hxw c2
              have d0 := Ext.cell_some hxw d0
              have d1 := Ext.cell_some hxw d1
              have d2 := Ext.cell_some hxw d2
              have hcell := Ext.cell_some hxw hcell
              clear hj
              go_simp
              try go_bits
              first | rfl | (rw [if_pos (by omega), if_pos (by omega)]; go_simp; rfl) | (rw [if_pos (by omega)]; go_simp; rfl) | skip
            · have c0 := Ext.cell_some hxw c0
              have c1 := Ext.cell_some hxw c1
              have c2 := Ext.cell_some hxw c2
              have d0 := Ext.cell_some hxw d0
              have d1 := Ext.cell_some hxw d1
              have d2 := Ext.cell_some hxw d2
              have hcell := Ext.cell_some hxw hcell
              clear hj
              go_simp
              try go_bits
              first | rfl | (rw [if_pos (by omega), if_pos (by omega)]; go_simp; rfl) | (rw [if_pos (by omega)]; go_simp; rfl) | skip
            · have c0 := Ext.cell_some hxw c0
              have c1 := Ext.cell_some hxw c1
              have c2 := Ext.cell_some hxw c2
              have d0 := Ext.cell_some hxw d0
              have d1 := Ext.cell_some hxw d1
              have d2 := Ext.cell_some hxw d2
              have hcell := Ext.cell_some hxw hcell
              clear hj
              go_simp
              try go_bits
              exact HR.out.2.1 _
            · have c0 := Ext.cell_some hxw c0
              have c1 := Ext.cell_some hxw c1
              have c2 := Ext.cell_some hxw c2
              have d0 := Ext.cell_some hxw d0
              have d1 := Ext.cell_some hxw d1
              have d2 := Ext.cell_some hxw d2
              have hcell := Ext.cell_some hxw hcell
              clear hj
              go_simp
              try go_bits
              first | rfl | (rw [if_pos (by omega), if_pos (by omega)]; go_simp; rfl) | (rw [if_pos (by omega)]; go_simp; rfl) | skip
            · have c0 := Ext.cell_some hxw c0
              have c1 := Ext.cell_some hxw c1
              have c2 := Ext.cell_some hxw c2
              have d0 := Ext.cell_some hxw d0
              have d1 := Ext.cell_some hxw d1
              have d2 := Ext.cell_some hxw d2
              have hcell := Ext.cell_some hxw hcell
              clear hj
              go_simp
              try go_bits
              first | rfl | (rw [if_pos (by omega), if_pos (by omega)]; go_simp; rfl) | (rw [if_pos (by omega)]; go_simp; rfl) | skip
            · have c0 := Ext.cell_some hxw c0
              have c1 := Ext.cell_some hxw c1
              have c2 := Ext.cell_some hxw c2
              have d0 := Ext.cell_some hxw d0
              have d1 := Ext.cell_some hxw d1
              have d2 := Ext.cell_some hxw d2
              have hcell := Ext.cell_some hxw hcell
              clear hj
              go_simp
              try go_bits
              first | rfl | (rw [if_pos (by omega), if_pos (by omega)]; go_simp; rfl) | (rw [if_pos (by omega)]; go_simp; rfl) | skip
            · have c0 := Ext.cell_some hxw c0
              have c1 := Ext.cell_some hxw c1
              have c2 := Ext.cell_some hxw c2
              have d0 := Ext.cell_some hxw d0
              have d1 := Ext.cell_some hxw d1
              have d2 := Ext.cell_some hxw d2
              have hcell := Ext.cell_some hxw hcell
              clear hj
              go_simp
              try go_bits
              first | rfl | (rw [if_pos (by omega), if_pos (by omega)]; go_simp; rfl) | (rw [if_pos (by omega)]; go_simp; rfl) | skip
            · have c0 := Ext.cell_some hxw c0
              have c1 := Ext.cell_some hxw c1
              have c2 := Ext.cell_some hxw c2
              have d0 := Ext.cell_some hxw d0
              have d1 := Ext.cell_some hxw d1
              have d2 := Ext.cell_some hxw d2
              have hcell := Ext.cell_some hxw hcell
              clear hj
              go_simp
              try go_bits
              first | rfl | (rw [if_pos (by omega), if_pos (by omega)]; go_simp; rfl) | (rw [if_pos (by omega)]; go_simp; rfl) | skip
          case' hx6_20_p =>
            intro vs w6 hx6 hk
            clear hk
            replace c0 := Ext.cell_some hx6 c0
            replace c1 := Ext.cell_some hx6 c1
            replace c2 := Ext.cell_some hx6 c2
            replace d0 := Ext.cell_some hx6 d0
            replace d1 := Ext.cell_some hx6 d1
            replace d2 := Ext.cell_some hx6 d2
            replace hcell := Ext.cell_some hx6 hcell
            replace hxr := Ext.trans hxr hx6
            go_simp
            clear hx6 c0 c1 c2 d0 d1 d2 hcell
            go_wp2
            go_ret
            exact ⟨ret_bool (by rw [HB.out.1, HBD.out]), hx.trans hxr⟩
    · have hkM : k = M := by omega
      subst hkM
      go_wp2
      go_ret
      exact ⟨ret_bool (by rw [HB.out.1, hall.all]), hx.trans hxr⟩
end Go.Proofs.Ytfkdpeifnfpldaa

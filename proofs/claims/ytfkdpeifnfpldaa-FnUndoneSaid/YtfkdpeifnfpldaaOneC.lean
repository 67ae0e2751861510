/- Contracts: IsOneToOne of both. -/
import Derived.Test.YtfkdpeifnfpldaaOneB
namespace Go.Proofs.Ytfkdpeifnfpldaa
open Go.RowKit Go.Cm

set_option maxRecDepth 100000 in
set_option maxHeartbeats 8000000 in
theorem spec_IsOneToOne_wide (K n m N : Nat) (o : ByteArray) (w : World) (hcd : codeOk K n o = true) (hf : CodeFit K n o) (hn : n = m + 1) (hm : 1 ≤ m) (hN : N = K ^ m) :
    Calls Try.prog 35 #[.agg #[.int .i64 K, .int .i64 n, .string o]] w fun e w' => e = .returned (.bool ((List.range (N * N)).all (diagB (livelyL (stepsL K N o)) N))) ∧ Ext w w' := by
  have hk2 := hf.k2
  have hk3 := hf.k3
  have hn4 := hf.n4
  have hNK : N * K ≤ 27 := by have := hf.le; rwa [hn, Nat.pow_succ, ← hN] at this
  have hos : o.size = N * K := by rw [hf.size, hn, Nat.pow_succ, hN]
  have hN1 : 0 < N := by rw [hN]; exact Nat.pow_pos (by omega)
  have hN9 : N ≤ 9 := by
    by_cases h2 : K = 2
    · have h1 : 2 ^ m ≤ 2 ^ 3 := Nat.pow_le_pow_right (by omega) (by omega)
      rw [hN, h2]
      omega
    · have h3 : K = 3 := by omega
      rw [h3] at hNK
      omega
  have hNne : ¬ N = 0 := by omega
  have ho : o.size ≤ maxLen := by unfold maxLen; omega
  have e1 : (n : Int) - 1 = m := by omega
  have hw1 : ((n : Int) == 1) = false := by simp; omega
  have hpw : ∀ w, Calls Try.prog 61 #[.int .i64 K, .int .i64 m] w fun e w' => e = .returned (.int .i64 (N : Nat)) ∧ w = w' := by
    intro w
    have h := spec_l11Power_any (K : Int) (m : Int) w (by omega) (by omega) (by omega) (by omega)
    rw [pw_nat, ← hN] at h
    exact h
  have hst := fun w => spec_l13Steps_any K n m N o w hf hn hm hN
  obtain ⟨b, hb⟩ : ∃ b, b = (List.range (N * N)).all (diagB (livelyL (stepsL K N o)) N) := ⟨_, rfl⟩
  rw [← hb]
  have HBB := Lib.hid hb
  clear hb
  have HC := Lib.hid hcd
  have HP := Lib.hid (And.intro hpw hst)
  clear hcd hpw hn hN hos hst
  go_enter Try.func35, Try.ntmps35
  go_wp2_with fail
  with_reducible refine (spec_IsCode_any _ _ _ _ ho).mono ?_
  rintro e w1 ⟨rfl, hx⟩
  rw [HC.out]
  have bo := (show Blk _ w.heap.size #[.int .i64 K, .int .i64 n, .string o] by (repeat (first | (refine Blk.mk' ?_; (simp; done)) | apply Blk.old))).ext hx
  replace hx : Ext w w1 := Ext.trans (by (repeat (first | exact (Ext.refl w) | exact Ext.refl _ | exact Ext.alloc _ _ | refine Ext.alloced ?_ _ | (refine Ext.stored ?_ ?_; rotate_left; (· (first | (show _ ≤ _; omega) | (simp; done) | (simp; omega))))))) hx
  obtain ⟨c0, c1, c2, -, -, -⟩ := bo.c3
  go_wp2_with fail
  with_reducible refine (HP.out.1 _).mono ?_
  rintro e w2 ⟨rfl, rfl⟩
  go_wp2_with fail
  with_reducible refine (HP.out.2 _).mono ?_
  rintro e w2 ⟨g, M, cap, B, fs, hM, rfl, hT, hx2⟩
  have hM81 : M ≤ 81 := by
    have : N * N ≤ 9 * 9 := Nat.mul_le_mul hN9 hN9
    omega
  replace hx := hx.trans hx2
  have hcall := spec_l13Live_any (stepsL K N o) g M cap B fs w2 hT (by rw [stepsL_length, hM]) (steps_fit hk3 hN1 hN9 o)
  have HM := Lib.hid (And.intro hM HBB.out)
  clear hM hx2
  go_wp2_with fail
  with_reducible refine hcall.mono ?_
  rintro e w9 ⟨z, c, rfl, hz, hx9⟩
  have hxa := hx.trans hx9
  have hll : (livelyL (stepsL K N o)).length = M := by rw [livelyL, liveN_length, stepsL_length, HM.out.1]
  have HL := Lib.hid hll
  clear hcall hx9 hT c0 c1 c2 bo hll
  go_wp2
  go_loopw [7] (fun i wr => ∃ j : Nat, j ≤ M ∧ i = .int .i64 j ∧ AllTo (diagB (livelyL (stepsL K N o)) N) j ∧ Ext w9 wr) (fun i _ => M - (intOf i).toNat)
  case atStart => exact ⟨0, by omega, rfl, AllTo.zero _, Ext.refl _⟩
  case round =>
    obtain ⟨j, hj, rfl, hall, hxq⟩ := hrel
    by_cases hltj : j < M
    · have hcj := (hz.ext hxq).cell j (by rw [tcells_length, HL.out]; exact hltj)
      rw [tcells_at _ _ (by rw [HL.out]; exact hltj)] at hcj
      have hd : diagB (livelyL (stepsL K N o)) N j = !((livelyL (stepsL K N o)).getD j false && !decide (j / N = j % N)) := rfl
      obtain ⟨x, hx'⟩ : ∃ x, x = (livelyL (stepsL K N o)).getD j false := ⟨_, rfl⟩
      rw [← hx'] at hcj hd
      obtain ⟨U, hU⟩ : ∃ U, U = j / N := ⟨_, rfl⟩
      obtain ⟨V, hV⟩ : ∃ V, V = j % N := ⟨_, rfl⟩
      have hUi : (j : Int) / (N : Int) = (U : Int) := by rw [hU]; simp
      have hVi : (j : Int) % (N : Int) = (V : Int) := by rw [hV]; simp
      have hUb : U ≤ j := by rw [hU]; exact Nat.div_le_self _ _
      rw [← hU, ← hV] at hd
      have HD := Lib.hid hd
      clear hd hx' hU hV
      cases x with
      | false =>
        have HG := Lib.hid (show diagB (livelyL (stepsL K N o)) N j = true by rw [HD.out]; simp_all)
        go_wp2
        refine wp_region_inv (by kernel_rfl) (.known ?hx5_8_v0 :: .known ?hx5_8_v1 :: .known ?hx5_8_v2 :: .known ?hx5_8_v3 :: .known ?hx5_8_v4 :: .known ?hx5_8_v5 :: .known ?hx5_8_v6 :: .known ?hx5_8_v7 :: .known ?hx5_8_v8 :: .known ?hx5_8_v9 :: .known ?hx5_8_v10 :: .known ?hx5_8_v11 :: .known ?hx5_8_v12 :: []) rfl (by kernel_rfl) ?hx5_8_s ?hx5_8_p
        case hx5_8_s =>
          intro vs
          refine ⟨fun w' hxw hj => ?_, fun w' hxw hj => ?_, fun w' hxw hj => ?_, fun w' hxw hj => ?_, fun w' hxw hj => ?_, fun w' hxw hj => ?_, fun w' hxw hj => ?_, fun w' hxw hj => ?_, fun w' hxw hj => ?_, fun w' hxw hj => ?_, fun w' hxw hj => ?_, fun w' hxw hj => ?_, fun w' hxw hj => ?_, trivial⟩
          · have hcj := Ext.cell_some hxw hcj
            clear hj
            go_simp
            try go_bits
            first | rfl | (rw [if_pos (by omega), if_pos (by omega)]; go_simp; rfl) | (rw [if_pos (by omega)]; go_simp; rfl) | skip
          · have hcj := Ext.cell_some hxw hcj
            clear hj
            go_simp
            try go_bits
            first | rfl | (rw [if_pos (by omega), if_pos (by omega)]; go_simp; rfl) | (rw [if_pos (by omega)]; go_simp; rfl) | skip
          · have hcj := Ext.cell_some hxw hcj
            clear hj
            go_simp
            try go_bits
            first | rfl | (rw [if_pos (by omega), if_pos (by omega)]; go_simp; rfl) | (rw [if_pos (by omega)]; go_simp; rfl) | skip
          · have hcj := Ext.cell_some hxw hcj
            clear hj
            go_simp
            try go_bits
            first | rfl | (rw [if_pos (by omega), if_pos (by omega)]; go_simp; rfl) | (rw [if_pos (by omega)]; go_simp; rfl) | skip
          · have hcj := Ext.cell_some hxw hcj
            clear hj
            go_simp
            try go_bits
            first | rfl | (rw [if_pos (by omega), if_pos (by omega)]; go_simp; rfl) | (rw [if_pos (by omega)]; go_simp; rfl) | skip
          · have hcj := Ext.cell_some hxw hcj
            clear hj
            go_simp
            try go_bits
            first | rfl | (rw [if_pos (by omega), if_pos (by omega)]; go_simp; rfl) | (rw [if_pos (by omega)]; go_simp; rfl) | skip
          · have hcj := Ext.cell_some hxw hcj
            clear hj
            go_simp
            try go_bits
            first | rfl | (rw [if_pos (by omega), if_pos (by omega)]; go_simp; rfl) | (rw [if_pos (by omega)]; go_simp; rfl) | skip
          · have hcj := Ext.cell_some hxw hcj
            clear hj
            go_simp
            try go_bits
            first | rfl | (rw [if_pos (by omega), if_pos (by omega)]; go_simp; rfl) | (rw [if_pos (by omega)]; go_simp; rfl) | skip
          · have hcj := Ext.cell_some hxw hcj
            clear hj
            go_simp
            try go_bits
            first | rfl | (rw [if_pos (by omega), if_pos (by omega)]; go_simp; rfl) | (rw [if_pos (by omega)]; go_simp; rfl) | skip
          · have hcj := Ext.cell_some hxw hcj
            clear hj
            go_simp
            try go_bits
            first | rfl | (rw [if_pos (by omega), if_pos (by omega)]; go_simp; rfl) | (rw [if_pos (by omega)]; go_simp; rfl) | skip
          · have hcj := Ext.cell_some hxw hcj
            clear hj
            go_simp
            try go_bits
            first | rfl | (rw [if_pos (by omega), if_pos (by omega)]; go_simp; rfl) | (rw [if_pos (by omega)]; go_simp; rfl) | skip
          · have hcj := Ext.cell_some hxw hcj
            clear hj
            go_simp
            try go_bits
            first | rfl | (rw [if_pos (by omega), if_pos (by omega)]; go_simp; rfl) | (rw [if_pos (by omega)]; go_simp; rfl) | skip
          · have hcj := Ext.cell_some hxw hcj
            clear hj
            go_simp
            try go_bits
            first | rfl | (rw [if_pos (by omega), if_pos (by omega)]; go_simp; rfl) | (rw [if_pos (by omega)]; go_simp; rfl) | skip
        case' hx5_8_p =>
          intro vs w5 hx5 hk
          clear hk
          replace hcj := Ext.cell_some hx5 hcj
          replace hxq := Ext.trans hxq hx5
          go_simp
          clear hx5 hcj
          go_wp2
          go_roundw
          case rel => exact ⟨j + 1, by omega, by go_num, hall.succ HG.out, hxq⟩
          case measure => simp [intOf]; omega
      | true =>
        by_cases hUV : U = V
        · subst hUV
          have hb1 : ((U : Int) != (U : Int)) = false := by simp
          have HG := Lib.hid (show diagB (livelyL (stepsL K N o)) N j = true by rw [HD.out]; simp_all)
          go_wp2
          refine wp_region_inv (by kernel_rfl) (.known ?hx5_9_v0 :: .known ?hx5_9_v1 :: .known ?hx5_9_v2 :: .known ?hx5_9_v3 :: .known ?hx5_9_v4 :: .known ?hx5_9_v5 :: .known ?hx5_9_v6 :: .known ?hx5_9_v7 :: .known ?hx5_9_v8 :: .known ?hx5_9_v9 :: .known ?hx5_9_v10 :: .known ?hx5_9_v11 :: .known ?hx5_9_v12 :: []) rfl (by kernel_rfl) ?hx5_9_s ?hx5_9_p
          case hx5_9_s =>
            intro vs
            refine ⟨fun w' hxw hj => ?_, fun w' hxw hj => ?_, fun w' hxw hj => ?_, fun w' hxw hj => ?_, fun w' hxw hj => ?_, fun w' hxw hj => ?_, fun w' hxw hj => ?_, fun w' hxw hj => ?_, fun w' hxw hj => ?_, fun w' hxw hj => ?_, fun w' hxw hj => ?_, fun w' hxw hj => ?_, fun w' hxw hj => ?_, trivial⟩
            · have hcj := Ext.cell_some hxw hcj
              clear hj
              go_simp
              try go_bits
              first | rfl | (rw [if_pos (by omega), if_pos (by omega)]; go_simp; rfl) | (rw [if_pos (by omega)]; go_simp; rfl) | skip
            · have hcj := Ext.cell_some hxw hcj
              clear hj
              go_simp
              try go_bits
              first | rfl | (rw [if_pos (by omega), if_pos (by omega)]; go_simp; rfl) | (rw [if_pos (by omega)]; go_simp; rfl) | skip
            · have hcj := Ext.cell_some hxw hcj
              clear hj
              go_simp
              try go_bits
              first | rfl | (rw [if_pos (by omega), if_pos (by omega)]; go_simp; rfl) | (rw [if_pos (by omega)]; go_simp; rfl) | skip
            · have hcj := Ext.cell_some hxw hcj
              clear hj
              go_simp
              try go_bits
              first | rfl | (rw [if_pos (by omega), if_pos (by omega)]; go_simp; rfl) | (rw [if_pos (by omega)]; go_simp; rfl) | skip
            · have hcj := Ext.cell_some hxw hcj
              clear hj
              go_simp
              try go_bits
              first | rfl | (rw [if_pos (by omega), if_pos (by omega)]; go_simp; rfl) | (rw [if_pos (by omega)]; go_simp; rfl) | skip
            · have hcj := Ext.cell_some hxw hcj
              clear hj
              go_simp
              try go_bits
              first | rfl | (rw [if_pos (by omega), if_pos (by omega)]; go_simp; rfl) | (rw [if_pos (by omega)]; go_simp; rfl) | skip
            · have hcj := Ext.cell_some hxw hcj
              clear hj
              go_simp
              try go_bits
              first | rfl | (rw [if_pos (by omega), if_pos (by omega)]; go_simp; rfl) | (rw [if_pos (by omega)]; go_simp; rfl) | skip
            · have hcj := Ext.cell_some hxw hcj
              clear hj
              go_simp
              try go_bits
              first | rfl | (rw [if_pos (by omega), if_pos (by omega)]; go_simp; rfl) | (rw [if_pos (by omega)]; go_simp; rfl) | skip
            · have hcj := Ext.cell_some hxw hcj
              clear hj
              go_simp
              try go_bits
              first | rfl | (rw [if_pos (by omega), if_pos (by omega)]; go_simp; rfl) | (rw [if_pos (by omega)]; go_simp; rfl) | skip
            · have hcj := Ext.cell_some hxw hcj
              clear hj
              go_simp
              try go_bits
              first | rfl | (rw [if_pos (by omega), if_pos (by omega)]; go_simp; rfl) | (rw [if_pos (by omega)]; go_simp; rfl) | skip
            · have hcj := Ext.cell_some hxw hcj
              clear hj
              go_simp
              try go_bits
              first | rfl | (rw [if_pos (by omega), if_pos (by omega)]; go_simp; rfl) | (rw [if_pos (by omega)]; go_simp; rfl) | skip
            · have hcj := Ext.cell_some hxw hcj
              clear hj
              go_simp
              try go_bits
              first | rfl | (rw [if_pos (by omega), if_pos (by omega)]; go_simp; rfl) | (rw [if_pos (by omega)]; go_simp; rfl) | skip
            · have hcj := Ext.cell_some hxw hcj
              clear hj
              go_simp
              try go_bits
              first | rfl | (rw [if_pos (by omega), if_pos (by omega)]; go_simp; rfl) | (rw [if_pos (by omega)]; go_simp; rfl) | skip
          case' hx5_9_p =>
            intro vs w5 hx5 hk
            clear hk
            replace hcj := Ext.cell_some hx5 hcj
            replace hxq := Ext.trans hxq hx5
            go_simp
            clear hx5 hcj
            go_wp2
            go_roundw
            case rel => exact ⟨j + 1, by omega, by go_num, hall.succ HG.out, hxq⟩
            case measure => simp [intOf]; omega
        · have hb1 : ((U : Int) != (V : Int)) = true := by simp; omega
          have HG := Lib.hid (AllTo.bad (p := diagB (livelyL (stepsL K N o)) N) hltj (by rw [HD.out]; simp [hUV]))
          go_wp2
          refine wp_region_inv (by kernel_rfl) (.known ?hx5_10_v0 :: .known ?hx5_10_v1 :: .known ?hx5_10_v2 :: .known ?hx5_10_v3 :: .known ?hx5_10_v4 :: .known ?hx5_10_v5 :: .known ?hx5_10_v6 :: .known ?hx5_10_v7 :: .known ?hx5_10_v8 :: .known ?hx5_10_v9 :: .known ?hx5_10_v10 :: .known ?hx5_10_v11 :: .known ?hx5_10_v12 :: []) rfl (by kernel_rfl) ?hx5_10_s ?hx5_10_p
          case hx5_10_s =>
            intro vs
            refine ⟨fun w' hxw hj => ?_, fun w' hxw hj => ?_, fun w' hxw hj => ?_, fun w' hxw hj => ?_, fun w' hxw hj => ?_, fun w' hxw hj => ?_, fun w' hxw hj => ?_, fun w' hxw hj => ?_, fun w' hxw hj => ?_, fun w' hxw hj => ?_, fun w' hxw hj => ?_, fun w' hxw hj => ?_, fun w' hxw hj => ?_, trivial⟩
            · have hcj := Ext.cell_some hxw hcj
              clear hj
              go_simp
              try go_bits
              first | rfl | (rw [if_pos (by omega), if_pos (by omega)]; go_simp; rfl) | (rw [if_pos (by omega)]; go_simp; rfl) | skip
            · have hcj := Ext.cell_some hxw hcj
              clear hj
              go_simp
              try go_bits
              first | rfl | (rw [if_pos (by omega), if_pos (by omega)]; go_simp; rfl) | (rw [if_pos (by omega)]; go_simp; rfl) | skip
            · have hcj := Ext.cell_some hxw hcj
              clear hj
              go_simp
              try go_bits
              first | rfl | (rw [if_pos (by omega), if_pos (by omega)]; go_simp; rfl) | (rw [if_pos (by omega)]; go_simp; rfl) | skip
            · have hcj := Ext.cell_some hxw hcj
              clear hj
              go_simp
              try go_bits
              first | rfl | (rw [if_pos (by omega), if_pos (by omega)]; go_simp; rfl) | (rw [if_pos (by omega)]; go_simp; rfl) | skip
            · have hcj := Ext.cell_some hxw hcj
              clear hj
              go_simp
              try go_bits
              first | rfl | (rw [if_pos (by omega), if_pos (by omega)]; go_simp; rfl) | (rw [if_pos (by omega)]; go_simp; rfl) | skip
            · have hcj := Ext.cell_some hxw hcj
              clear hj
              go_simp
              try go_bits
              first | rfl | (rw [if_pos (by omega), if_pos (by omega)]; go_simp; rfl) | (rw [if_pos (by omega)]; go_simp; rfl) | skip
            · have hcj := Ext.cell_some hxw hcj
              clear hj
              go_simp
              try go_bits
              first | rfl | (rw [if_pos (by omega), if_pos (by omega)]; go_simp; rfl) | (rw [if_pos (by omega)]; go_simp; rfl) | skip
            · have hcj := Ext.cell_some hxw hcj
              clear hj
              go_simp
              try go_bits
              first | rfl | (rw [if_pos (by omega), if_pos (by omega)]; go_simp; rfl) | (rw [if_pos (by omega)]; go_simp; rfl) | skip
            · have hcj := Ext.cell_some hxw hcj
              clear hj
              go_simp
              try go_bits
              first | rfl | (rw [if_pos (by omega), if_pos (by omega)]; go_simp; rfl) | (rw [if_pos (by omega)]; go_simp; rfl) | skip
            · have hcj := Ext.cell_some hxw hcj
              clear hj
              go_simp
              try go_bits
              first | rfl | (rw [if_pos (by omega), if_pos (by omega)]; go_simp; rfl) | (rw [if_pos (by omega)]; go_simp; rfl) | skip
            · have hcj := Ext.cell_some hxw hcj
              clear hj
              go_simp
              try go_bits
              first | rfl | (rw [if_pos (by omega), if_pos (by omega)]; go_simp; rfl) | (rw [if_pos (by omega)]; go_simp; rfl) | skip
            · have hcj := Ext.cell_some hxw hcj
              clear hj
              go_simp
              try go_bits
              first | rfl | (rw [if_pos (by omega), if_pos (by omega)]; go_simp; rfl) | (rw [if_pos (by omega)]; go_simp; rfl) | skip
            · have hcj := Ext.cell_some hxw hcj
              clear hj
              go_simp
              try go_bits
              first | rfl | (rw [if_pos (by omega), if_pos (by omega)]; go_simp; rfl) | (rw [if_pos (by omega)]; go_simp; rfl) | skip
          case' hx5_10_p =>
            intro vs w5 hx5 hk
            clear hk
            replace hcj := Ext.cell_some hx5 hcj
            replace hxq := Ext.trans hxq hx5
            go_simp
            clear hx5 hcj
            go_wp2
            go_ret
            exact ⟨ret_bool (by rw [HM.out.2, ← HM.out.1, HG.out]), hxa.trans hxq⟩
    · have hjM : j = M := by omega
      subst hjM
      go_wp2
      go_ret
      exact ⟨ret_bool (by rw [HM.out.2, ← HM.out.1, hall.all]), hxa.trans hxq⟩

/-- one letter is another one's -/
def injP (o : ByteArray) (i : Nat) : Bool := (List.range i).all fun k => !decide (o.data.toList.getD i 0 = o.data.toList.getD k 0)
def injQ (o : ByteArray) (i k : Nat) : Bool := !decide (o.data.toList.getD i 0 = o.data.toList.getD k 0)


set_option maxRecDepth 100000 in
set_option maxHeartbeats 4000000 in
theorem impl_IsOneToOne_one (K : Nat) (o : ByteArray) (w : World) (hcd : codeOk K (1 : Nat) o = true) (hf : CodeFit K 1 o) :
    Calls Try.prog 34 #[.agg #[.int .i64 K, .int .i64 1, .string o]] w fun e w' => e = .returned (.bool (injB o)) ∧ Ext w w' := by
  have hos : o.size ≤ 27 := by have := hf.size; have := hf.le; omega
  have ho : o.size ≤ maxLen := by unfold maxLen; omega
  obtain ⟨b, hb⟩ : ∃ b, b = injB o := ⟨_, rfl⟩
  rw [← hb]
  have hb' : b = (List.range o.size).all (injP o) := hb
  have HC := Lib.hid hcd
  have HB := Lib.hid hb'
  clear hb hb' hcd
  go_enter Try.func34, Try.ntmps34
  go_wp2_with fail
  with_reducible refine (impl_IsCode_any _ _ _ _ ho).mono ?_
  rintro e w1 ⟨rfl, hx⟩
  rw [show codeOk (K : Int) 1 o = true from HC.out]
  have bo := (show Blk _ w.heap.size #[.int .i64 K, .int .i64 1, .string o] by (repeat (first | (refine Blk.mk' ?_; (simp; done)) | apply Blk.old))).ext hx
  replace hx : Ext w w1 := Ext.trans (by (repeat (first | exact (Ext.refl w) | exact Ext.refl _ | exact Ext.alloc _ _ | refine Ext.alloced ?_ _ | (refine Ext.stored ?_ ?_; rotate_left; (· (first | (show _ ≤ _; omega) | (simp; done) | (simp; omega))))))) hx
  obtain ⟨c0, c1, c2, -, -, -⟩ := bo.c3
  go_wp2
  go_loopw [26] (fun i wr => ∃ i' : Nat, i' ≤ o.size ∧ i = .int .i64 i' ∧ AllTo (injP o) i' ∧ Ext w1 wr) (fun i _ => o.size - (intOf i).toNat)
  case atStart => exact ⟨0, by omega, rfl, AllTo.zero _, Ext.refl _⟩
  case round =>
    clear c0 c1 c2
    obtain ⟨i, hi, rfl, hall, hxr⟩ := hrel
    obtain ⟨c0, c1, c2, -, -, -⟩ := (bo.ext hxr).c3
    by_cases hlt : i < o.size
    · obtain ⟨w2, rfl⟩ : ∃ w2 : World, w2 = wr := ⟨_, rfl⟩
      have e1 : o.data.toList.getD i 0 = o[i] := by rw [List.getD_eq_getElem?_getD, List.getElem?_eq_getElem (by simpa using hlt)]; rfl
      have HE := Lib.hid e1
      clear e1
      go_wp2
      go_loopw [30] (fun j wr => ∃ k : Nat, k ≤ i ∧ j = .int .i64 k ∧ AllTo (injQ o i) k ∧ Ext w1 wr) (fun j _ => i - (intOf j).toNat)
      case atStart => exact ⟨0, by omega, rfl, AllTo.zero _, hxr⟩
      case round =>
        clear c0 c1 c2 hxr
        obtain ⟨k, hk, rfl, hall2, hxr⟩ := hrel
        obtain ⟨c0, c1, c2, -, -, -⟩ := (bo.ext hxr).c3
        by_cases hltk : k < i
        · have hko : k < o.size := by omega
          have hq : injQ o i k = !decide (o[i] = o[k]) := by
            have e2 : o.data.toList.getD k 0 = o[k] := by rw [List.getD_eq_getElem?_getD, List.getElem?_eq_getElem (by simpa using hko)]; rfl
            unfold injQ
            rw [HE.out, e2]
          have HQ := Lib.hid hq
          clear hq
          by_cases hcc : o[i] = o[k]
          · have hccn : ((o[i].toNat : Int) == (o[k].toNat : Int)) = true := by simp [hcc]
            have hbad : b = false := by
              rw [HB.out]
              refine AllTo.bad hlt ?_
              show (List.range i).all (injQ o i) = false
              exact AllTo.bad hltk (by rw [HQ.out, hcc]; simp)
            have HBD := Lib.hid hbad
            clear hbad hcc
            go_wp2
            refine wp_region_inv (by kernel_rfl) (.known ?hx5_11_v0 :: .known ?hx5_11_v1 :: .known ?hx5_11_v2 :: .known ?hx5_11_v3 :: .known ?hx5_11_v4 :: .known ?hx5_11_v5 :: .known ?hx5_11_v6 :: .known ?hx5_11_v7 :: .known ?hx5_11_v8 :: []) rfl (by kernel_rfl) ?hx5_11_s ?hx5_11_p
            case hx5_11_s =>
              intro vs
              refine ⟨fun w' hxw hj => ?_, fun w' hxw hj => ?_, fun w' hxw hj => ?_, fun w' hxw hj => ?_, fun w' hxw hj => ?_, fun w' hxw hj => ?_, fun w' hxw hj => ?_, fun w' hxw hj => ?_, fun w' hxw hj => ?_, trivial⟩
              · have c0 := Ext.cell_some hxw c0
                have c1 := Ext.cell_some hxw c1
                have c2 := Ext.cell_some hxw c2
                clear hj
                go_simp
                try go_bits
                first | rfl | (rw [if_pos (by omega), if_pos (by omega)]; go_simp; rfl) | (rw [if_pos (by omega)]; go_simp; rfl) | skip
              · have c0 := Ext.cell_some hxw c0
                have c1 := Ext.cell_some hxw c1
                have c2 := Ext.cell_some hxw c2
                clear hj
                go_simp
                try go_bits
                first | rfl | (rw [if_pos (by omega), if_pos (by omega)]; go_simp; rfl) | (rw [if_pos (by omega)]; go_simp; rfl) | skip
              · have c0 := Ext.cell_some hxw c0
                have c1 := Ext.cell_some hxw c1
                have c2 := Ext.cell_some hxw c2
                clear hj
                go_simp
                try go_bits
                first | rfl | (rw [if_pos (by omega), if_pos (by omega)]; go_simp; rfl) | (rw [if_pos (by omega)]; go_simp; rfl) | skip
              · have c0 := Ext.cell_some hxw c0
                have c1 := Ext.cell_some hxw c1
                have c2 := Ext.cell_some hxw c2
                clear hj
                go_simp
                try go_bits
                first | rfl | (rw [if_pos (by omega), if_pos (by omega)]; go_simp; rfl) | (rw [if_pos (by omega)]; go_simp; rfl) | skip
              · have c0 := Ext.cell_some hxw c0
                have c1 := Ext.cell_some hxw c1
                have c2 := Ext.cell_some hxw c2
                clear hj
                go_simp
                try go_bits
                first | rfl | (rw [if_pos (by omega), if_pos (by omega)]; go_simp; rfl) | (rw [if_pos (by omega)]; go_simp; rfl) | skip
              · have c0 := Ext.cell_some hxw c0
                have c1 := Ext.cell_some hxw c1
                have c2 := Ext.cell_some hxw c2
                clear hj
                go_simp
                try go_bits
                first | rfl | (rw [if_pos (by omega), if_pos (by omega)]; go_simp; rfl) | (rw [if_pos (by omega)]; go_simp; rfl) | skip
              · have c0 := Ext.cell_some hxw c0
                have c1 := Ext.cell_some hxw c1
                have c2 := Ext.cell_some hxw c2
                clear hj
                go_simp
                try go_bits
                first | rfl | (rw [if_pos (by omega), if_pos (by omega)]; go_simp; rfl) | (rw [if_pos (by omega)]; go_simp; rfl) | skip
              · have c0 := Ext.cell_some hxw c0
                have c1 := Ext.cell_some hxw c1
                have c2 := Ext.cell_some hxw c2
                clear hj
                go_simp
                try go_bits
                first | rfl | (rw [if_pos (by omega), if_pos (by omega)]; go_simp; rfl) | (rw [if_pos (by omega)]; go_simp; rfl) | skip
              · have c0 := Ext.cell_some hxw c0
                have c1 := Ext.cell_some hxw c1
                have c2 := Ext.cell_some hxw c2
                clear hj
                go_simp
                try go_bits
                first | rfl | (rw [if_pos (by omega), if_pos (by omega)]; go_simp; rfl) | (rw [if_pos (by omega)]; go_simp; rfl) | skip
            case' hx5_11_p =>
              intro vs w5 hx5 hk
              clear hk
              replace c0 := Ext.cell_some hx5 c0
              replace c1 := Ext.cell_some hx5 c1
              replace c2 := Ext.cell_some hx5 c2
              replace hxr := Ext.trans hxr hx5
              go_simp
              clear hx5 c0 c1 c2
              go_wp2
              go_ret
              exact ⟨ret_bool (by rw [HBD.out]), hx.trans hxr⟩
          · have hccn : ((o[i].toNat : Int) == (o[k].toNat : Int)) = false := by
              have h : ¬ o[i].toNat = o[k].toNat := fun h => hcc (UInt8.toNat_inj.1 h)
              simp; omega
            have HG := Lib.hid (show injQ o i k = true by rw [HQ.out]; simp [hcc])
            clear hcc
            go_wp2
            refine wp_region_inv (by kernel_rfl) (.known ?hx5_12_v0 :: .known ?hx5_12_v1 :: .known ?hx5_12_v2 :: .known ?hx5_12_v3 :: .known ?hx5_12_v4 :: .known ?hx5_12_v5 :: .known ?hx5_12_v6 :: .known ?hx5_12_v7 :: .known ?hx5_12_v8 :: []) rfl (by kernel_rfl) ?hx5_12_s ?hx5_12_p
            case hx5_12_s =>
              intro vs
              refine ⟨fun w' hxw hj => ?_, fun w' hxw hj => ?_, fun w' hxw hj => ?_, fun w' hxw hj => ?_, fun w' hxw hj => ?_, fun w' hxw hj => ?_, fun w' hxw hj => ?_, fun w' hxw hj => ?_, fun w' hxw hj => ?_, trivial⟩
              · have c0 := Ext.cell_some hxw c0
                have c1 := Ext.cell_some hxw c1
                have c2 := Ext.cell_some hxw c2
                clear hj
                go_simp
                try go_bits
                first | rfl | (rw [if_pos (by omega), if_pos (by omega)]; go_simp; rfl) | (rw [if_pos (by omega)]; go_simp; rfl) | skip
              · have c0 := Ext.cell_some hxw c0
                have c1 := Ext.cell_some hxw c1
                have c2 := Ext.cell_some hxw c2
                clear hj
                go_simp
                try go_bits
                first | rfl | (rw [if_pos (by omega), if_pos (by omega)]; go_simp; rfl) | (rw [if_pos (by omega)]; go_simp; rfl) | skip
              · have c0 := Ext.cell_some hxw c0
                have c1 := Ext.cell_some hxw c1
                have c2 := Ext.cell_some hxw c2
                clear hj
                go_simp
                try go_bits
                first | rfl | (rw [if_pos (by omega), if_pos (by omega)]; go_simp; rfl) | (rw [if_pos (by omega)]; go_simp; rfl) | skip
              · have c0 := Ext.cell_some hxw c0
                have c1 := Ext.cell_some hxw c1
                have c2 := Ext.cell_some hxw c2
                clear hj
                go_simp
                try go_bits
                first | rfl | (rw [if_pos (by omega), if_pos (by omega)]; go_simp; rfl) | (rw [if_pos (by omega)]; go_simp; rfl) | skip
              · have c0 := Ext.cell_some hxw c0
                have c1 := Ext.cell_some hxw c1
                have c2 := Ext.cell_some hxw c2
                clear hj
                go_simp
                try go_bits
                first | rfl | (rw [if_pos (by omega), if_pos (by omega)]; go_simp; rfl) | (rw [if_pos (by omega)]; go_simp; rfl) | skip
              · have c0 := Ext.cell_some hxw c0
                have c1 := Ext.cell_some hxw c1
                have c2 := Ext.cell_some hxw c2
                clear hj
                go_simp
                try go_bits
                first | rfl | (rw [if_pos (by omega), if_pos (by omega)]; go_simp; rfl) | (rw [if_pos (by omega)]; go_simp; rfl) | skip
              · have c0 := Ext.cell_some hxw c0
                have c1 := Ext.cell_some hxw c1
                have c2 := Ext.cell_some hxw c2
                clear hj
                go_simp
                try go_bits
                first | rfl | (rw [if_pos (by omega), if_pos (by omega)]; go_simp; rfl) | (rw [if_pos (by omega)]; go_simp; rfl) | skip
              · have c0 := Ext.cell_some hxw c0
                have c1 := Ext.cell_some hxw c1
                have c2 := Ext.cell_some hxw c2
                clear hj
                go_simp
                try go_bits
                first | rfl | (rw [if_pos (by omega), if_pos (by omega)]; go_simp; rfl) | (rw [if_pos (by omega)]; go_simp; rfl) | skip
              · have c0 := Ext.cell_some hxw c0
                have c1 := Ext.cell_some hxw c1
                have c2 := Ext.cell_some hxw c2
                clear hj
                go_simp
                try go_bits
                first | rfl | (rw [if_pos (by omega), if_pos (by omega)]; go_simp; rfl) | (rw [if_pos (by omega)]; go_simp; rfl) | skip
            case' hx5_12_p =>
              intro vs w5 hx5 hk
              clear hk
              replace c0 := Ext.cell_some hx5 c0
              replace c1 := Ext.cell_some hx5 c1
              replace c2 := Ext.cell_some hx5 c2
              replace hxr := Ext.trans hxr hx5
              go_simp
              clear hx5 c0 c1 c2
              go_wp2
              go_roundw
              case rel => exact ⟨k + 1, by omega, by go_num, hall2.succ HG.out, hxr⟩
              case measure => simp [intOf]; omega
        · have hki : k = i := by omega
          have hgood : injP o i = true := by
            show (List.range i).all (injQ o i) = true
            rw [hki] at hall2
            exact hall2.all
          have HG := Lib.hid hgood
          clear hgood
          subst hki
          go_wp2
          go_roundw
          case rel => exact ⟨k + 1, by omega, by go_num, hall.succ HG.out, hxr⟩
          case measure => simp [intOf]; omega
    · have hio : i = o.size := by omega
      have hbt : b = true := by rw [HB.out, ← hio]; exact hall.all
      have HG := Lib.hid hbt
      clear hbt
      subst hio
      go_wp2
      go_ret
      exact ⟨ret_bool (by rw [HG.out]), hx.trans hxr⟩

set_option maxRecDepth 100000 in
set_option maxHeartbeats 4000000 in
theorem spec_IsOneToOne_one (K : Nat) (o : ByteArray) (w : World) (hcd : codeOk K (1 : Nat) o = true) (hf : CodeFit K 1 o) :
    Calls Try.prog 35 #[.agg #[.int .i64 K, .int .i64 1, .string o]] w fun e w' => e = .returned (.bool (injB o)) ∧ Ext w w' := by
  have hos : o.size ≤ 27 := by have := hf.size; have := hf.le; omega
  have ho : o.size ≤ maxLen := by unfold maxLen; omega
  obtain ⟨b, hb⟩ : ∃ b, b = injB o := ⟨_, rfl⟩
  rw [← hb]
  have hb' : b = (List.range o.size).all (injP o) := hb
  have HC := Lib.hid hcd
  have HB := Lib.hid hb'
  clear hb hb' hcd
  go_enter Try.func35, Try.ntmps35
  go_wp2_with fail
  with_reducible refine (spec_IsCode_any _ _ _ _ ho).mono ?_
  rintro e w1 ⟨rfl, hx⟩
  rw [show codeOk (K : Int) 1 o = true from HC.out]
  have bo := (show Blk _ w.heap.size #[.int .i64 K, .int .i64 1, .string o] by (repeat (first | (refine Blk.mk' ?_; (simp; done)) | apply Blk.old))).ext hx
  replace hx : Ext w w1 := Ext.trans (by (repeat (first | exact (Ext.refl w) | exact Ext.refl _ | exact Ext.alloc _ _ | refine Ext.alloced ?_ _ | (refine Ext.stored ?_ ?_; rotate_left; (· (first | (show _ ≤ _; omega) | (simp; done) | (simp; omega))))))) hx
  obtain ⟨c0, c1, c2, -, -, -⟩ := bo.c3
  go_wp2
  go_loopw [3] (fun i wr => ∃ i' : Nat, i' ≤ o.size ∧ i = .int .i64 i' ∧ AllTo (injP o) i' ∧ Ext w1 wr) (fun i _ => o.size - (intOf i).toNat)
  case atStart => exact ⟨0, by omega, rfl, AllTo.zero _, Ext.refl _⟩
  case round =>
    clear c0 c1 c2
    obtain ⟨i, hi, rfl, hall, hxr⟩ := hrel
    obtain ⟨c0, c1, c2, -, -, -⟩ := (bo.ext hxr).c3
    by_cases hlt : i < o.size
    · obtain ⟨w2, rfl⟩ : ∃ w2 : World, w2 = wr := ⟨_, rfl⟩
      have e1 : o.data.toList.getD i 0 = o[i] := by rw [List.getD_eq_getElem?_getD, List.getElem?_eq_getElem (by simpa using hlt)]; rfl
      have HE := Lib.hid e1
      clear e1
      go_wp2
      go_loopw [4] (fun j wr => ∃ k : Nat, k ≤ i ∧ j = .int .i64 k ∧ AllTo (injQ o i) k ∧ Ext w1 wr) (fun j _ => i - (intOf j).toNat)
      case atStart => exact ⟨0, by omega, rfl, AllTo.zero _, hxr⟩
      case round =>
        clear c0 c1 c2 hxr
        obtain ⟨k, hk, rfl, hall2, hxr⟩ := hrel
        obtain ⟨c0, c1, c2, -, -, -⟩ := (bo.ext hxr).c3
        by_cases hltk : k < i
        · have hko : k < o.size := by omega
          have hq : injQ o i k = !decide (o[i] = o[k]) := by
            have e2 : o.data.toList.getD k 0 = o[k] := by rw [List.getD_eq_getElem?_getD, List.getElem?_eq_getElem (by simpa using hko)]; rfl
            unfold injQ
            rw [HE.out, e2]
          have HQ := Lib.hid hq
          clear hq
          by_cases hcc : o[i] = o[k]
          · have hccn : ((o[i].toNat : Int) == (o[k].toNat : Int)) = true := by simp [hcc]
            have hbad : b = false := by
              rw [HB.out]
              refine AllTo.bad hlt ?_
              show (List.range i).all (injQ o i) = false
              exact AllTo.bad hltk (by rw [HQ.out, hcc]; simp)
            have HBD := Lib.hid hbad
            clear hbad hcc
            go_wp2
            refine wp_region_inv (by kernel_rfl) (.known ?hx5_13_v0 :: .known ?hx5_13_v1 :: .known ?hx5_13_v2 :: .known ?hx5_13_v3 :: .known ?hx5_13_v4 :: .known ?hx5_13_v5 :: .known ?hx5_13_v6 :: .known ?hx5_13_v7 :: .known ?hx5_13_v8 :: []) rfl (by kernel_rfl) ?hx5_13_s ?hx5_13_p
            case hx5_13_s =>
              intro vs
              refine ⟨fun w' hxw hj => ?_, fun w' hxw hj => ?_, fun w' hxw hj => ?_, fun w' hxw hj => ?_, fun w' hxw hj => ?_, fun w' hxw hj => ?_, fun w' hxw hj => ?_, fun w' hxw hj => ?_, fun w' hxw hj => ?_, trivial⟩
              · have c0 := Ext.cell_some hxw c0
                have c1 := Ext.cell_some hxw c1
                have c2 := Ext.cell_some hxw c2
                clear hj
                go_simp
                try go_bits
                first | rfl | (rw [if_pos (by omega), if_pos (by omega)]; go_simp; rfl) | (rw [if_pos (by omega)]; go_simp; rfl) | skip
              · have c0 := Ext.cell_some hxw c0
                have c1 := Ext.cell_some hxw c1
                have c2 := Ext.cell_some hxw c2
                clear hj
                go_simp
                try go_bits
                first | rfl | (rw [if_pos (by omega), if_pos (by omega)]; go_simp; rfl) | (rw [if_pos (by omega)]; go_simp; rfl) | skip
              · have c0 := Ext.cell_some hxw c0
                have c1 := Ext.cell_some hxw c1
                have c2 := Ext.cell_some hxw c2
                clear hj
                go_simp
                try go_bits
                first | rfl | (rw [if_pos (by omega), if_pos (by omega)]; go_simp; rfl) | (rw [if_pos (by omega)]; go_simp; rfl) | skip
              · have c0 := Ext.cell_some hxw c0
                have c1 := Ext.cell_some hxw c1
                have c2 := Ext.cell_some hxw c2
                clear hj
                go_simp
                try go_bits
                first | rfl | (rw [if_pos (by omega), if_pos (by omega)]; go_simp; rfl) | (rw [if_pos (by omega)]; go_simp; rfl) | skip
              · have c0 := Ext.cell_some hxw c0
                have c1 := Ext.cell_some hxw c1
                have c2 := Ext.cell_some hxw c2
                clear hj
                go_simp
                try go_bits
                first | rfl | (rw [if_pos (by omega), if_pos (by omega)]; go_simp; rfl) | (rw [if_pos (by omega)]; go_simp; rfl) | skip
              · have c0 := Ext.cell_some hxw c0
                have c1 := Ext.cell_some hxw c1
                have c2 := Ext.cell_some hxw c2
                clear hj
                go_simp
                try go_bits
                first | rfl | (rw [if_pos (by omega), if_pos (by omega)]; go_simp; rfl) | (rw [if_pos (by omega)]; go_simp; rfl) | skip
              · have c0 := Ext.cell_some hxw c0
                have c1 := Ext.cell_some hxw c1
                have c2 := Ext.cell_some hxw c2
                clear hj
                go_simp
                try go_bits
                first | rfl | (rw [if_pos (by omega), if_pos (by omega)]; go_simp; rfl) | (rw [if_pos (by omega)]; go_simp; rfl) | skip
              · have c0 := Ext.cell_some hxw c0
                have c1 := Ext.cell_some hxw c1
                have c2 := Ext.cell_some hxw c2
                clear hj
                go_simp
                try go_bits
                first | rfl | (rw [if_pos (by omega), if_pos (by omega)]; go_simp; rfl) | (rw [if_pos (by omega)]; go_simp; rfl) | skip
              · have c0 := Ext.cell_some hxw c0
                have c1 := Ext.cell_some hxw c1
                have c2 := Ext.cell_some hxw c2
                clear hj
                go_simp
                try go_bits
                first | rfl | (rw [if_pos (by omega), if_pos (by omega)]; go_simp; rfl) | (rw [if_pos (by omega)]; go_simp; rfl) | skip
            case' hx5_13_p =>
              intro vs w5 hx5 hk
              clear hk
              replace c0 := Ext.cell_some hx5 c0
              replace c1 := Ext.cell_some hx5 c1
              replace c2 := Ext.cell_some hx5 c2
              replace hxr := Ext.trans hxr hx5
              go_simp
              clear hx5 c0 c1 c2
              go_wp2
              go_ret
              exact ⟨ret_bool (by rw [HBD.out]), hx.trans hxr⟩
          · have hccn : ((o[i].toNat : Int) == (o[k].toNat : Int)) = false := by
              have h : ¬ o[i].toNat = o[k].toNat := fun h => hcc (UInt8.toNat_inj.1 h)
              simp; omega
            have HG := Lib.hid (show injQ o i k = true by rw [HQ.out]; simp [hcc])
            clear hcc
            go_wp2
            refine wp_region_inv (by kernel_rfl) (.known ?hx5_14_v0 :: .known ?hx5_14_v1 :: .known ?hx5_14_v2 :: .known ?hx5_14_v3 :: .known ?hx5_14_v4 :: .known ?hx5_14_v5 :: .known ?hx5_14_v6 :: .known ?hx5_14_v7 :: .known ?hx5_14_v8 :: []) rfl (by kernel_rfl) ?hx5_14_s ?hx5_14_p
            case hx5_14_s =>
              intro vs
              refine ⟨fun w' hxw hj => ?_, fun w' hxw hj => ?_, fun w' hxw hj => ?_, fun w' hxw hj => ?_, fun w' hxw hj => ?_, fun w' hxw hj => ?_, fun w' hxw hj => ?_, fun w' hxw hj => ?_, fun w' hxw hj => ?_, trivial⟩
              · have c0 := Ext.cell_some hxw c0
                have c1 := Ext.cell_some hxw c1
                have c2 := Ext.cell_some hxw c2
                clear hj
                go_simp
                try go_bits
                first | rfl | (rw [if_pos (by omega), if_pos (by omega)]; go_simp; rfl) | (rw [if_pos (by omega)]; go_simp; rfl) | skip
              · have c0 := Ext.cell_some hxw c0
                have c1 := Ext.cell_some hxw c1
                have c2 := Ext.cell_some hxw c2
                clear hj
                go_simp
                try go_bits
                first | rfl | (rw [if_pos (by omega), if_pos (by omega)]; go_simp; rfl) | (rw [if_pos (by omega)]; go_simp; rfl) | skip
              · have c0 := Ext.cell_some hxw c0
                have c1 := Ext.cell_some hxw c1
                have c2 := Ext.cell_some hxw c2
                clear hj
                go_simp
                try go_bits
                first | rfl | (rw [if_pos (by omega), if_pos (by omega)]; go_simp; rfl) | (rw [if_pos (by omega)]; go_simp; rfl) | skip
              · have c0 := Ext.cell_some hxw c0
                have c1 := Ext.cell_some hxw c1
                have c2 := Ext.cell_some hxw c2
                clear hj
                go_simp
                try go_bits
                first | rfl | (rw [if_pos (by omega), if_pos (by omega)]; go_simp; rfl) | (rw [if_pos (by omega)]; go_simp; rfl) | skip
              · have c0 := Ext.cell_some hxw c0
                have c1 := Ext.cell_some hxw c1
                have c2 := Ext.cell_some hxw c2
                clear hj
                go_simp
                try go_bits
                first | rfl | (rw [if_pos (by omega), if_pos (by omega)]; go_simp; rfl) | (rw [if_pos (by omega)]; go_simp; rfl) | skip
              · have c0 := Ext.cell_some hxw c0
                have c1 := Ext.cell_some hxw c1
                have c2 := Ext.cell_some hxw c2
                clear hj
                go_simp
                try go_bits
                first | rfl | (rw [if_pos (by omega), if_pos (by omega)]; go_simp; rfl) | (rw [if_pos (by omega)]; go_simp; rfl) | skip
              · have c0 := Ext.cell_some hxw c0
                have c1 := Ext.cell_some hxw c1
                have c2 := Ext.cell_some hxw c2
                clear hj
                go_simp
                try go_bits
                first | rfl | (rw [if_pos (by omega), if_pos (by omega)]; go_simp; rfl) | (rw [if_pos (by omega)]; go_simp; rfl) | skip
              · have c0 := Ext.cell_some hxw c0
                have c1 := Ext.cell_some hxw c1
                have c2 := Ext.cell_some hxw c2
                clear hj
                go_simp
                try go_bits
                first | rfl | (rw [if_pos (by omega), if_pos (by omega)]; go_simp; rfl) | (rw [if_pos (by omega)]; go_simp; rfl) | skip
              · have c0 := Ext.cell_some hxw c0
                have c1 := Ext.cell_some hxw c1
                have c2 := Ext.cell_some hxw c2
                clear hj
                go_simp
                try go_bits
                first | rfl | (rw [if_pos (by omega), if_pos (by omega)]; go_simp; rfl) | (rw [if_pos (by omega)]; go_simp; rfl) | skip
            case' hx5_14_p =>
              intro vs w5 hx5 hk
              clear hk
              replace c0 := Ext.cell_some hx5 c0
              replace c1 := Ext.cell_some hx5 c1
              replace c2 := Ext.cell_some hx5 c2
              replace hxr := Ext.trans hxr hx5
              go_simp
              clear hx5 c0 c1 c2
              go_wp2
              go_roundw
              case rel => exact ⟨k + 1, by omega, by go_num, hall2.succ HG.out, hxr⟩
              case measure => simp [intOf]; omega
        · have hki : k = i := by omega
          have hgood : injP o i = true := by
            show (List.range i).all (injQ o i) = true
            rw [hki] at hall2
            exact hall2.all
          have HG := Lib.hid hgood
          clear hgood
          subst hki
          go_wp2
          go_roundw
          case rel => exact ⟨k + 1, by omega, by go_num, hall.succ HG.out, hxr⟩
          case measure => simp [intOf]; omega
    · have hio : i = o.size := by omega
      have hbt : b = true := by rw [HB.out, ← hio]; exact hall.all
      have HG := Lib.hid hbt
      clear hbt
      subst hio
      go_wp2
      go_ret
      exact ⟨ret_bool (by rw [HG.out]), hx.trans hxr⟩


set_option maxHeartbeats 1000000 in
theorem impl_IsOneToOne_no (L W : Int) (o : ByteArray) (w : World) (ho : o.size ≤ maxLen) (h : codeOk L W o = false) :
    Calls Try.prog 34 #[.agg #[.int .i64 L, .int .i64 W, .string o]] w fun e w' => e = .returned (.bool false) ∧ Ext w w' := by
  go_enter Try.func34, Try.ntmps34
  go_wp2_with fail
  with_reducible refine (impl_IsCode_any _ _ _ _ ho).mono ?_
  rintro e w1 ⟨rfl, hx⟩
  rw [h]
  replace hx : Ext w w1 := Ext.trans (by (repeat (first | exact (Ext.refl w) | exact Ext.refl _ | exact Ext.alloc _ _ | refine Ext.alloced ?_ _ | (refine Ext.stored ?_ ?_; rotate_left; (· (first | (show _ ≤ _; omega) | (simp; done) | (simp; omega))))))) hx
  go_wp2
  go_ret
  exact ⟨rfl, hx⟩

set_option maxHeartbeats 1000000 in
theorem spec_IsOneToOne_no (L W : Int) (o : ByteArray) (w : World) (ho : o.size ≤ maxLen) (h : codeOk L W o = false) :
    Calls Try.prog 35 #[.agg #[.int .i64 L, .int .i64 W, .string o]] w fun e w' => e = .returned (.bool false) ∧ Ext w w' := by
  go_enter Try.func35, Try.ntmps35
  go_wp2_with fail
  with_reducible refine (spec_IsCode_any _ _ _ _ ho).mono ?_
  rintro e w1 ⟨rfl, hx⟩
  rw [h]
  replace hx : Ext w w1 := Ext.trans (by (repeat (first | exact (Ext.refl w) | exact Ext.refl _ | exact Ext.alloc _ _ | refine Ext.alloced ?_ _ | (refine Ext.stored ?_ ?_; rotate_left; (· (first | (show _ ≤ _; omega) | (simp; done) | (simp; omega))))))) hx
  go_wp2
  go_ret
  exact ⟨rfl, hx⟩


theorem impl_IsOneToOne_any (K n : Nat) (o : ByteArray) (w : World) (hcd : codeOk K n o = true) (hf : CodeFit K n o) :
    Calls Try.prog 34 #[.agg #[.int .i64 K, .int .i64 n, .string o]] w fun e w' => e = .returned (.bool (oneB K n o)) ∧ Ext w w' := by
  unfold oneB
  have hn1 := hf.n1
  by_cases h1 : n = 1
  · subst h1
    rw [if_pos rfl]
    exact impl_IsOneToOne_one K o w hcd hf
  · rw [if_neg h1]
    exact impl_IsOneToOne_wide K n (n - 1) (K ^ (n - 1)) o w hcd hf (by omega) (by omega) rfl

theorem spec_IsOneToOne_any (K n : Nat) (o : ByteArray) (w : World) (hcd : codeOk K n o = true) (hf : CodeFit K n o) :
    Calls Try.prog 35 #[.agg #[.int .i64 K, .int .i64 n, .string o]] w fun e w' => e = .returned (.bool (oneB K n o)) ∧ Ext w w' := by
  unfold oneB
  have hn1 := hf.n1
  by_cases h1 : n = 1
  · subst h1
    rw [if_pos rfl]
    exact spec_IsOneToOne_one K o w hcd hf
  · rw [if_neg h1]
    exact spec_IsOneToOne_wide K n (n - 1) (K ^ (n - 1)) o w hcd hf (by omega) (by omega) rfl
end Go.Proofs.Ytfkdpeifnfpldaa

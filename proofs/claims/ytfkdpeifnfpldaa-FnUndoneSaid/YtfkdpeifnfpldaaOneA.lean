/- Contract: IsOneToOne of the program, for widths of more than one letter. -/
import Derived.Test.YtfkdpeifnfpldaaLiveA
import Derived.Test.YtfkdpeifnfpldaaPkM
import Derived.Test.YtfkdpeifnfpldaaSameA
namespace Go.Proofs.Ytfkdpeifnfpldaa
open Go.RowKit Go.Cm

theorem infoRow : (Try.prog.info? 63).map (fun i => (i.zero, i.size, i.bytes)) = some (some (.slice none 0 0), 1, 24) := by kernel_rfl

theorem steps_fit {K N : Nat} (hK : K ≤ 3) (hN : 0 < N) (hN9 : N ≤ 9) (o : ByteArray) : Fits (stepsL K N o) := by
  have hNN : N * N ≤ 9 * 9 := Nat.mul_le_mul hN9 hN9
  refine ⟨by rw [stepsL_length]; omega, fun i => ?_, fun i p hp => ?_⟩
  · rw [stepsL_row]
    split
    · have h1 := rowTo_length K N o (i / N) (i % N) K
      have h2 : K * K ≤ 3 * 3 := Nat.mul_le_mul hK hK
      omega
    · simp
  · rw [stepsL_row] at hp ⊢
    split at hp
    · rename_i hi
      rw [if_pos hi, stepsL_length]
      refine rowTo_ent (K := K) hN o (i / N) (i % N) K _ ?_
      rw [List.getD_eq_getElem?_getD, List.getElem?_eq_getElem hp]
      exact List.getElem_mem _
    · simp at hp

set_option maxRecDepth 100000 in
set_option maxHeartbeats 8000000 in
theorem impl_IsOneToOne_wide (K n m N : Nat) (o : ByteArray) (w : World) (hcd : codeOk K n o = true) (hf : CodeFit K n o) (hn : n = m + 1) (hm : 1 ≤ m) (hN : N = K ^ m) :
    Calls Try.prog 34 #[.agg #[.int .i64 K, .int .i64 n, .string o]] w fun e w' => e = .returned (.bool ((List.range (N * N)).all (diagB (livelyL (stepsL K N o)) N))) ∧ Ext w w' := by
  have hk2 := hf.k2
  have hk3 := hf.k3
  have hn4 := hf.n4
  have hNK : N * K ≤ 27 := by have := hf.le; rwa [hn, Nat.pow_succ, ← hN] at this
  have hos : o.size = N * K := by rw [hf.size, hn, Nat.pow_succ, hN]
  have hN1 : 0 < N := by rw [hN]; exact Nat.pow_pos (by omega)
  have hN9 : N ≤ 9 := by
    by_cases h2 : K = 2
    · have h1 : 2 ^ m ≤ 2 ^ 3 := Nat.pow_le_pow_right (by omega) (by omega)
      rw [hN, h2]
      omega
    · have h3 : K = 3 := by omega
      rw [h3] at hNK
      omega
  have hNne : ¬ N = 0 := by omega
  have ho : o.size ≤ maxLen := by unfold maxLen; omega
  have e1 : (n : Int) - 1 = m := by omega
  have hw1 : ((n : Int) == 1) = false := by simp; omega
  have hpw : ∀ w, Calls Try.prog 65 #[.int .i64 K, .int .i64 m] w fun e w' => e = .returned (.int .i64 (N : Nat)) ∧ w = w' := by
    intro w
    have h := impl_power_any (K : Int) (m : Int) w (by omega) (by omega) (by omega) (by omega)
    rw [pw_nat, ← hN] at h
    exact h
  obtain ⟨M, hM⟩ : ∃ M, M = N * N := ⟨_, rfl⟩
  have hMi : (N : Int) * (N : Int) = (M : Int) := by rw [hM]; simp
  have hM169 : M ≤ 81 := by
    have : N * N ≤ 9 * 9 := Nat.mul_le_mul hN9 hN9
    omega
  obtain ⟨b, hb⟩ : ∃ b, b = (List.range M).all (diagB (livelyL (stepsL K N o)) N) := ⟨_, rfl⟩
  have hb' : (List.range (N * N)).all (diagB (livelyL (stepsL K N o)) N) = b := by rw [hb, hM]
  rw [hb']
  have HC := Lib.hid hcd
  have HP := Lib.hid hpw
  have HM := Lib.hid (And.intro hM (And.intro hb (And.intro hos hNK)))
  clear hcd hpw hM hb hb' hn hN hos
  go_enter Try.func34, Try.ntmps34
  go_wp2_with fail
  with_reducible refine (impl_IsCode_any _ _ _ _ ho).mono ?_
  rintro e w1 ⟨rfl, hx⟩
  rw [HC.out]
  have bo := (show Blk _ w.heap.size #[.int .i64 K, .int .i64 n, .string o] by (repeat (first | (refine Blk.mk' ?_; (simp; done)) | apply Blk.old))).ext hx
  replace hx : Ext w w1 := Ext.trans (by (repeat (first | exact (Ext.refl w) | exact Ext.refl _ | exact Ext.alloc _ _ | refine Ext.alloced ?_ _ | (refine Ext.stored ?_ ?_; rotate_left; (· (first | (show _ ≤ _; omega) | (simp; done) | (simp; omega))))))) hx
  obtain ⟨c0, c1, c2, -, -, -⟩ := bo.c3
  go_wp2_with fail
  with_reducible refine (HP.out _).mono ?_
  rintro e w2 ⟨rfl, rfl⟩
  have hbl := bo.lt
  have hT0 : Tab (w1.alloc (.cells #[] 63)) w1.heap.size 63 3 (.slice (some ⟨w1.heap.size, 0, none⟩) 0 0) [] (((stepsL K N o).take 0).map ncells) := Tab.nil (Own.lit w1 63 [] (by simp))
  have hx0 := Ext.alloc w1 (.cells #[] 63)
  go_wp2
  go_loopw [6, 54] (fun v i wr => ∃ (p : Nat) (fs : List Value), p ≤ M ∧ i = .int .i64 p ∧ Tab wr w1.heap.size 63 3 v fs (((stepsL K N o).take p).map ncells) ∧ Ext w1 wr) (fun _ i _ => M - (intOf i).toNat)
  case atStart => exact ⟨0, [], by omega, rfl, hT0, hx0⟩
  case round =>
    clear hT0 hx0 c0 c1 c2
    obtain ⟨p, fs, hp, rfl, hT, hxr⟩ := hrel
    obtain ⟨c0, c1, c2, -, -, -⟩ := (bo.ext hxr).c3
    by_cases hlt : p < M
    · obtain ⟨U, hU⟩ : ∃ U, U = p / N := ⟨_, rfl⟩
      obtain ⟨V, hV⟩ : ∃ V, V = p % N := ⟨_, rfl⟩
      have hUi : (p : Int) / (N : Int) = (U : Int) := by rw [hU]; simp
      have hVi : (p : Int) % (N : Int) = (V : Int) := by rw [hV]; simp
      have hUN : U < N := by rw [hU]; exact Nat.div_lt_of_lt_mul (by rw [← HM.out.1]; exact hlt)
      have hVN : V < N := by rw [hV]; exact Nat.mod_lt _ hN1
      obtain ⟨ua, hua⟩ : ∃ ua, ua = U * K := ⟨_, rfl⟩
      obtain ⟨va, hva⟩ : ∃ va, va = V * K := ⟨_, rfl⟩
      have huai : (U : Int) * (K : Int) = (ua : Int) := by rw [hua]; simp
      have hvai : (V : Int) * (K : Int) = (va : Int) := by rw [hva]; simp
      have huab : ua + K ≤ N * K := by rw [hua, ← Nat.succ_mul]; exact Nat.mul_le_mul_right _ hUN
      have hvab : va + K ≤ N * K := by rw [hva, ← Nat.succ_mul]; exact Nat.mul_le_mul_right _ hVN
      rw [← HM.out.2.2.1] at huab hvab
      have ho27 : o.size ≤ 27 := by have := HM.out.2.2; omega
      have HU := Lib.hid (And.intro hU (And.intro hV (And.intro hua hva)))
      clear hU hV hua hva
      obtain ⟨w3, rfl⟩ : ∃ w3 : World, w3 = wr := ⟨_, rfl⟩
      go_wp2
      refine wp_region_inv (by kernel_rfl) (.known ?hx4_32_v0 :: .known ?hx4_32_v1 :: .known ?hx4_32_v2 :: .known ?hx4_32_v3 :: .known ?hx4_32_v4 :: .known ?hx4_32_v5 :: .known ?hx4_32_v6 :: .known ?hx4_32_v7 :: []) rfl (by kernel_rfl) ?hx4_32_s ?hx4_32_p
      case hx4_32_s =>
        intro vs
        refine ⟨fun w' hxw hj => ?_, fun w' hxw hj => ?_, fun w' hxw hj => ?_, fun w' hxw hj => ?_, fun w' hxw hj => ?_, fun w' hxw hj => ?_, fun w' hxw hj => ?_, fun w' hxw hj => ?_, trivial⟩
        · have c0 := Ext.cell_some hxw c0
          have c1 := Ext.cell_some hxw c1
          have c2 := Ext.cell_some hxw c2
          clear hj
          go_simp
          try go_bits
          first | rfl | (rw [if_pos (by omega), if_pos (by omega)]; go_simp; rfl) | (rw [if_pos (by omega)]; go_simp; rfl) | skip
        · have c0 := Ext.cell_some hxw c0
          have c1 := Ext.cell_some hxw c1
          have c2 := Ext.cell_some hxw c2
          clear hj
          go_simp
          try go_bits
          first | rfl | (rw [if_pos (by omega), if_pos (by omega)]; go_simp; rfl) | (rw [if_pos (by omega)]; go_simp; rfl) | skip
        · have c0 := Ext.cell_some hxw c0
          have c1 := Ext.cell_some hxw c1
          have c2 := Ext.cell_some hxw c2
          clear hj
          go_simp
          try go_bits
          first | rfl | (rw [if_pos (by omega), if_pos (by omega)]; go_simp; rfl) | (rw [if_pos (by omega)]; go_simp; rfl) | skip
        · have c0 := Ext.cell_some hxw c0
          have c1 := Ext.cell_some hxw c1
          have c2 := Ext.cell_some hxw c2
          clear hj
          go_simp
          try go_bits
          first | rfl | (rw [if_pos (by omega), if_pos (by omega)]; go_simp; rfl) | (rw [if_pos (by omega)]; go_simp; rfl) | skip
        · have c0 := Ext.cell_some hxw c0
          have c1 := Ext.cell_some hxw c1
          have c2 := Ext.cell_some hxw c2
          clear hj
          go_simp
          try go_bits
          first | rfl | (rw [if_pos (by omega), if_pos (by omega)]; go_simp; rfl) | (rw [if_pos (by omega)]; go_simp; rfl) | skip
        · have c0 := Ext.cell_some hxw c0
          have c1 := Ext.cell_some hxw c1
          have c2 := Ext.cell_some hxw c2
          clear hj
          go_simp
          try go_bits
          first | rfl | (rw [if_pos (by omega), if_pos (by omega)]; go_simp; rfl) | (rw [if_pos (by omega)]; go_simp; rfl) | skip
        · have c0 := Ext.cell_some hxw c0
          have c1 := Ext.cell_some hxw c1
          have c2 := Ext.cell_some hxw c2
          clear hj
          go_simp
          try go_bits
          first | rfl | (rw [if_pos (by omega), if_pos (by omega)]; go_simp; rfl) | (rw [if_pos (by omega)]; go_simp; rfl) | skip
        · have c0 := Ext.cell_some hxw c0
          have c1 := Ext.cell_some hxw c1
          have c2 := Ext.cell_some hxw c2
          clear hj
          go_simp
          try go_bits
          first | rfl | (rw [if_pos (by omega), if_pos (by omega)]; go_simp; rfl) | (rw [if_pos (by omega)]; go_simp; rfl) | skip
      case' hx4_32_p =>
        intro vs w4 hx4 hk
        clear hk
        replace c0 := Ext.cell_some hx4 c0
        replace c1 := Ext.cell_some hx4 c1
        replace c2 := Ext.cell_some hx4 c2
        replace hxr := Ext.trans hxr hx4
        go_simp
        replace hT := hT.ext hx4
        clear hx4
        have hw0 : Own (w4.alloc (.cells #[] 3)) w4.heap.size 3 (.slice (some ⟨w4.heap.size, 0, none⟩) 0 0) (ncells (rowTo K N o U V 0)) := by
          simpa [ncells, rowTo] using Own.lit w4 3 [] (by simp)
        have hx40 := Ext.alloc w4 (.cells #[] 3)
        obtain ⟨d0, d1, d2, -, -, -⟩ := ((bo.ext hxr).old (o := .cells #[] 3)).c3
        go_wp2
        go_loopw [10, 66] (fun v i wr => ∃ x : Nat, x ≤ K ∧ i = .int .i64 x ∧ Own wr w4.heap.size 3 v (ncells (rowTo K N o U V x)) ∧ (∃ g n c, v = .slice (some ⟨g, 0, none⟩) n c) ∧ Ext w4 wr) (fun _ i _ => K - (intOf i).toNat)
        case atStart => exact ⟨0, by omega, rfl, hw0, ⟨_, _, _, rfl⟩, hx40⟩
        case round =>
          clear hw0 hx40 d0 d1 d2
          obtain ⟨x, hx', rfl, hrow, hsl, hxw⟩ := hrel
          by_cases hltx : x < K
          · rw [← rowIn_zero] at hrow
            obtain ⟨w5, rfl⟩ : ∃ w5 : World, w5 = wr := ⟨_, rfl⟩
            obtain ⟨d0, d1, d2, -, -, -⟩ := ((bo.ext hxr).ext hxw).c3
            go_wp2
            go_loopw [10, 71] (fun v i wr => ∃ y : Nat, y ≤ K ∧ i = .int .i64 y ∧ Own wr w4.heap.size 3 v (ncells (rowIn K N o U V x y)) ∧ (∃ g n c, v = .slice (some ⟨g, 0, none⟩) n c) ∧ Ext w4 wr) (fun _ i _ => K - (intOf i).toNat)
            case atStart => exact ⟨0, by omega, rfl, hrow, hsl, hxw⟩
            case round =>
              clear hrow hsl hxw d0 d1 d2
              obtain ⟨y, hy', rfl, hrow, hsl, hxw⟩ := hrel
              by_cases hlty : y < K
              · obtain ⟨d0, d1, d2, -, -, -⟩ := ((bo.ext hxr).ext hxw).c3
                obtain ⟨q1, hq1⟩ : ∃ q1, q1 = ua + x := ⟨_, rfl⟩
                obtain ⟨q2, hq2⟩ : ∃ q2, q2 = va + y := ⟨_, rfl⟩
                have hq1i : (ua : Int) + (x : Int) = (q1 : Int) := by omega
                have hq2i : (va : Int) + (y : Int) = (q2 : Int) := by omega
                have hq1o : q1 < o.size := by omega
                have hq2o : q2 < o.size := by omega
                obtain ⟨m1, hm1⟩ : ∃ m1, m1 = q1 % N := ⟨_, rfl⟩
                obtain ⟨m2, hm2⟩ : ∃ m2, m2 = q2 % N := ⟨_, rfl⟩
                have hm1i : (q1 : Int) % (N : Int) = (m1 : Int) := by rw [hm1]; simp
                have hm2i : (q2 : Int) % (N : Int) = (m2 : Int) := by rw [hm2]; simp
                have hm1N : m1 < N := by rw [hm1]; exact Nat.mod_lt _ hN1
                have hm2N : m2 < N := by rw [hm2]; exact Nat.mod_lt _ hN1
                obtain ⟨ma, hma⟩ : ∃ ma, ma = m1 * N := ⟨_, rfl⟩
                have hmai : (m1 : Int) * (N : Int) = (ma : Int) := by rw [hma]; simp
                have hmab : ma ≤ 81 := by
                  have : m1 * N ≤ 9 * 9 := Nat.mul_le_mul (by omega) hN9
                  omega
                have hps : pairS K N o U V x y = if o[q1] = o[q2] then [ma + m2] else [] := by
                  unfold pairS
                  rw [← HU.out.2.2.1, ← HU.out.2.2.2, ← hq1, ← hq2, ← hm1, ← hm2, ← hma]
                  have e1 : o.data.toList.getD q1 0 = o[q1] := by rw [List.getD_eq_getElem?_getD, List.getElem?_eq_getElem (by simpa using hq1o)]; rfl
                  have e2 : o.data.toList.getD q2 0 = o[q2] := by rw [List.getD_eq_getElem?_getD, List.getElem?_eq_getElem (by simpa using hq2o)]; rfl
                  rw [e1, e2]
                have hsucc := rowIn_succ K N o U V x y
                rw [hps] at hsucc
                have hlen := rowIn_length K N o U V x y
                have hxK : x * K ≤ 3 * 3 := Nat.mul_le_mul (by omega) hk3
                have hl1 : (ncells (rowIn K N o U V x y)).length + 1 ≤ maxLen := by rw [ncells_length]; unfold maxLen; omega
                have hl2 : ((ncells (rowIn K N o U V x y)).length + 1) * 8 ≤ 140737488355328 := by rw [ncells_length]; omega
                have HS := Lib.hid hsucc
                clear hsucc hps hlen hxK hq1 hq2 hm1 hm2 hma
                go_wp2
                refine wp_region_inv (by kernel_rfl) (.known ?hx6_33_v0 :: .known ?hx6_33_v1 :: .known ?hx6_33_v2 :: .known ?hx6_33_v3 :: .known ?hx6_33_v4 :: .known ?hx6_33_v5 :: .known ?hx6_33_v6 :: .known ?hx6_33_v7 :: .known ?hx6_33_v8 :: .known ?hx6_33_v9 :: .known ?hx6_33_v10 :: .known ?hx6_33_v11 :: .known ?hx6_33_v12 :: .known ?hx6_33_v13 :: []) rfl (by kernel_rfl) ?hx6_33_s ?hx6_33_p
                case hx6_33_s =>
                  intro vs
                  refine ⟨fun w' hxw hj => ?_, fun w' hxw hj => ?_, fun w' hxw hj => ?_, fun w' hxw hj => ?_, fun w' hxw hj => ?_, fun w' hxw hj => ?_, fun w' hxw hj => ?_, fun w' hxw hj => ?_, fun w' hxw hj => ?_, fun w' hxw hj => ?_, fun w' hxw hj => ?_, fun w' hxw hj => ?_, fun w' hxw hj => ?_, fun w' hxw hj => ?_, trivial⟩
                  · have d0 := Ext.cell_some hxw d0
                    have d1 := Ext.cell_some hxw d1
                    have d2 := Ext.cell_some hxw d2
                    clear hj
                    go_simp
                    try go_bits
                    first | rfl | (rw [if_pos (by omega), if_pos (by omega)]; go_simp; rfl) | (rw [if_pos (by omega)]; go_simp; rfl) | skip
                  · have d0 := Ext.cell_some hxw d0
                    have d1 := Ext.cell_some hxw d1
                    have d2 := Ext.cell_some hxw d2
                    clear hj
                    go_simp
                    try go_bits
                    first | rfl | (rw [if_pos (by omega), if_pos (by omega)]; go_simp; rfl) | (rw [if_pos (by omega)]; go_simp; rfl) | skip
                  · have d0 := Ext.cell_some hxw d0
                    have d1 := Ext.cell_some hxw d1
                    have d2 := Ext.cell_some hxw d2
                    clear hj
                    go_simp
                    try go_bits
                    first | rfl | (rw [if_pos (by omega), if_pos (by omega)]; go_simp; rfl) | (rw [if_pos (by omega)]; go_simp; rfl) | skip
                  · have d0 := Ext.cell_some hxw d0
                    have d1 := Ext.cell_some hxw d1
                    have d2 := Ext.cell_some hxw d2
                    clear hj
                    go_simp
                    try go_bits
                    first | rfl | (rw [if_pos (by omega), if_pos (by omega)]; go_simp; rfl) | (rw [if_pos (by omega)]; go_simp; rfl) | skip
                  · have d0 := Ext.cell_some hxw d0
                    have d1 := Ext.cell_some hxw d1
                    have d2 := Ext.cell_some hxw d2
                    clear hj
                    go_simp
                    try go_bits
                    first | rfl | (rw [if_pos (by omega), if_pos (by omega)]; go_simp; rfl) | (rw [if_pos (by omega)]; go_simp; rfl) | skip
                  · have d0 := Ext.cell_some hxw d0
                    have d1 := Ext.cell_some hxw d1
                    have d2 := Ext.cell_some hxw d2
                    clear hj
                    go_simp
                    try go_bits
                    first | rfl | (rw [if_pos (by omega), if_pos (by omega)]; go_simp; rfl) | (rw [if_pos (by omega)]; go_simp; rfl) | skip
                  · have d0 := Ext.cell_some hxw d0
                    have d1 := Ext.cell_some hxw d1
                    have d2 := Ext.cell_some hxw d2
                    clear hj
                    go_simp
                    try go_bits
                    first | rfl | (rw [if_pos (by omega), if_pos (by omega)]; go_simp; rfl) | (rw [if_pos (by omega)]; go_simp; rfl) | skip
                  · have d0 := Ext.cell_some hxw d0
                    have d1 := Ext.cell_some hxw d1
                    have d2 := Ext.cell_some hxw d2
                    clear hj
                    go_simp
                    try go_bits
                    first | rfl | (rw [if_pos (by omega), if_pos (by omega)]; go_simp; rfl) | (rw [if_pos (by omega)]; go_simp; rfl) | skip
                  · have d0 := Ext.cell_some hxw d0
                    have d1 := Ext.cell_some hxw d1
                    have d2 := Ext.cell_some hxw d2
                    clear hj
                    go_simp
                    try go_bits
                    first | rfl | (rw [if_pos (by omega), if_pos (by omega)]; go_simp; rfl) | (rw [if_pos (by omega)]; go_simp; rfl) | skip
                  · have d0 := Ext.cell_some hxw d0
                    have d1 := Ext.cell_some hxw d1
                    have d2 := Ext.cell_some hxw d2
                    clear hj
                    go_simp
                    try go_bits
                    first | rfl | (rw [if_pos (by omega), if_pos (by omega)]; go_simp; rfl) | (rw [if_pos (by omega)]; go_simp; rfl) | skip
                  · have d0 := Ext.cell_some hxw d0
                    have d1 := Ext.cell_some hxw d1
                    have d2 := Ext.cell_some hxw d2
                    clear hj
                    go_simp
                    try go_bits
                    first | rfl | (rw [if_pos (by omega), if_pos (by omega)]; go_simp; rfl) | (rw [if_pos (by omega)]; go_simp; rfl) | skip
                  · have d0 := Ext.cell_some hxw d0
                    have d1 := Ext.cell_some hxw d1
                    have d2 := Ext.cell_some hxw d2
                    clear hj
                    go_simp
                    try go_bits
                    first | rfl | (rw [if_pos (by omega), if_pos (by omega)]; go_simp; rfl) | (rw [if_pos (by omega)]; go_simp; rfl) | skip
                  · have d0 := Ext.cell_some hxw d0
                    have d1 := Ext.cell_some hxw d1
                    have d2 := Ext.cell_some hxw d2
                    clear hj
                    go_simp
                    try go_bits
                    first | rfl | (rw [if_pos (by omega), if_pos (by omega)]; go_simp; rfl) | (rw [if_pos (by omega)]; go_simp; rfl) | skip
                  · have d0 := Ext.cell_some hxw d0
                    have d1 := Ext.cell_some hxw d1
                    have d2 := Ext.cell_some hxw d2
                    clear hj
                    go_simp
                    try go_bits
                    first | rfl | (rw [if_pos (by omega), if_pos (by omega)]; go_simp; rfl) | (rw [if_pos (by omega)]; go_simp; rfl) | skip
                case' hx6_33_p =>
                  intro vs w6 hx6 hk
                  clear hk
                  replace d0 := Ext.cell_some hx6 d0
                  replace d1 := Ext.cell_some hx6 d1
                  replace d2 := Ext.cell_some hx6 d2
                  replace hrow := Own.ext hrow hx6
                  replace hxw := Ext.trans hxw hx6
                  go_simp
                  clear hx6
                  by_cases hcc : o[q1] = o[q2]
                  · have hccn : ((o[q1].toNat : Int) == (o[q2].toNat : Int)) = true := by simp [hcc]
                    have HCC := Lib.hid hcc
                    clear hcc
                    go_wp2
                    refine wp_region_inv (by kernel_rfl) (.known ?hx7_34_v0 :: .known ?hx7_34_v1 :: .known ?hx7_34_v2 :: .known ?hx7_34_v3 :: .known ?hx7_34_v4 :: .known ?hx7_34_v5 :: .known ?hx7_34_v6 :: .known ?hx7_34_v7 :: .known ?hx7_34_v8 :: []) rfl (by kernel_rfl) ?hx7_34_s ?hx7_34_p
                    case hx7_34_s =>
                      intro vs
                      refine ⟨fun w' hxw hj => ?_, fun w' hxw hj => ?_, fun w' hxw hj => ?_, fun w' hxw hj => ?_, fun w' hxw hj => ?_, fun w' hxw hj => ?_, fun w' hxw hj => ?_, fun w' hxw hj => ?_, fun w' hxw hj => ?_, trivial⟩
                      · have d0 := Ext.cell_some hxw d0
                        have d1 := Ext.cell_some hxw d1
                        have d2 := Ext.cell_some hxw d2
                        clear hj
                        go_simp
                        try go_bits
                        first | rfl | (rw [if_pos (by omega), if_pos (by omega)]; go_simp; rfl) | (rw [if_pos (by omega)]; go_simp; rfl) | skip
                      · have d0 := Ext.cell_some hxw d0
                        have d1 := Ext.cell_some hxw d1
                        have d2 := Ext.cell_some hxw d2
                        clear hj
                        go_simp
                        try go_bits
                        first | rfl | (rw [if_pos (by omega), if_pos (by omega)]; go_simp; rfl) | (rw [if_pos (by omega)]; go_simp; rfl) | skip
                      · have d0 := Ext.cell_some hxw d0
                        have d1 := Ext.cell_some hxw d1
                        have d2 := Ext.cell_some hxw d2
                        clear hj
                        go_simp
                        try go_bits
                        first | rfl | (rw [if_pos (by omega), if_pos (by omega)]; go_simp; rfl) | (rw [if_pos (by omega)]; go_simp; rfl) | skip
                      · have d0 := Ext.cell_some hxw d0
                        have d1 := Ext.cell_some hxw d1
                        have d2 := Ext.cell_some hxw d2
                        clear hj
                        go_simp
                        try go_bits
                        first | rfl | (rw [if_pos (by omega), if_pos (by omega)]; go_simp; rfl) | (rw [if_pos (by omega)]; go_simp; rfl) | skip
                      · have d0 := Ext.cell_some hxw d0
                        have d1 := Ext.cell_some hxw d1
                        have d2 := Ext.cell_some hxw d2
                        clear hj
                        go_simp
                        try go_bits
                        first | rfl | (rw [if_pos (by omega), if_pos (by omega)]; go_simp; rfl) | (rw [if_pos (by omega)]; go_simp; rfl) | skip
                      · have d0 := Ext.cell_some hxw d0
                        have d1 := Ext.cell_some hxw d1
                        have d2 := Ext.cell_some hxw d2
                        clear hj
                        go_simp
                        try go_bits
                        first | rfl | (rw [if_pos (by omega), if_pos (by omega)]; go_simp; rfl) | (rw [if_pos (by omega)]; go_simp; rfl) | skip
                      · have d0 := Ext.cell_some hxw d0
                        have d1 := Ext.cell_some hxw d1
                        have d2 := Ext.cell_some hxw d2
                        clear hj
                        go_simp
                        try go_bits
                        first | rfl | (rw [if_pos (by omega), if_pos (by omega)]; go_simp; rfl) | (rw [if_pos (by omega)]; go_simp; rfl) | skip
                      · have d0 := Ext.cell_some hxw d0
                        have d1 := Ext.cell_some hxw d1
                        have d2 := Ext.cell_some hxw d2
                        clear hj
                        go_simp
                        try go_bits
                        first | rfl | (rw [if_pos (by omega), if_pos (by omega)]; go_simp; rfl) | (rw [if_pos (by omega)]; go_simp; rfl) | skip
                      · have d0 := Ext.cell_some hxw d0
                        have d1 := Ext.cell_some hxw d1
                        have d2 := Ext.cell_some hxw d2
                        clear hj
                        go_simp
                        try go_bits
                        first | rfl | (rw [if_pos (by omega), if_pos (by omega)]; go_simp; rfl) | (rw [if_pos (by omega)]; go_simp; rfl) | skip
                    case' hx7_34_p =>
                      intro vs w7 hx7 hk
                      clear hk
                      replace d0 := Ext.cell_some hx7 d0
                      replace d1 := Ext.cell_some hx7 d1
                      replace d2 := Ext.cell_some hx7 d2
                      replace hrow := Own.ext hrow hx7
                      replace hxw := Ext.trans hxw hx7
                      go_simp
                      clear hx7
                      go_wp2
                      refine wp_region_tail (by kernel_rfl) 11 (.known ?hx8_35_v0 :: .known ?hx8_35_v1 :: .known ?hx8_35_v2 :: .known ?hx8_35_v3 :: .known ?hx8_35_v4 :: .known ?hx8_35_v5 :: .known ?hx8_35_v6 :: .known ?hx8_35_v7 :: .known ?hx8_35_v8 :: .known ?hx8_35_v9 :: .box ?hx8_35_v10 :: []) rfl (by decide) (by kernel_rfl) (by kernel_rfl) ?hx8_35_s ?hx8_35_p
                      case hx8_35_s =>
                        intro vs
                        refine ⟨fun w' hxw hj => ?_, fun w' hxw hj => ?_, fun w' hxw hj => ?_, fun w' hxw hj => ?_, fun w' hxw hj => ?_, fun w' hxw hj => ?_, fun w' hxw hj => ?_, fun w' hxw hj => ?_, fun w' hxw hj => ?_, fun w' hxw hj => ?_, fun w' hxw hj => ?_, trivial⟩
                        · have d0 := Ext.cell_some hxw d0
                          have d1 := Ext.cell_some hxw d1
                          have d2 := Ext.cell_some hxw d2
                          clear hj
                          go_simp
                          try go_bits
                          first | rfl | (rw [if_pos (by omega), if_pos (by omega)]; go_simp; rfl) | (rw [if_pos (by omega)]; go_simp; rfl) | skip
                        · have d0 := Ext.cell_some hxw d0
                          have d1 := Ext.cell_some hxw d1
                          have d2 := Ext.cell_some hxw d2
                          clear hj
                          go_simp
                          try go_bits
                          first | rfl | (rw [if_pos (by omega), if_pos (by omega)]; go_simp; rfl) | (rw [if_pos (by omega)]; go_simp; rfl) | skip
                        · have d0 := Ext.cell_some hxw d0
                          have d1 := Ext.cell_some hxw d1
                          have d2 := Ext.cell_some hxw d2
                          clear hj
                          go_simp
                          try go_bits
                          first | rfl | (rw [if_pos (by omega), if_pos (by omega)]; go_simp; rfl) | (rw [if_pos (by omega)]; go_simp; rfl) | skip
                        · have d0 := Ext.cell_some hxw d0
                          have d1 := Ext.cell_some hxw d1
                          have d2 := Ext.cell_some hxw d2
                          clear hj
                          go_simp
                          try go_bits
                          first | rfl | (rw [if_pos (by omega), if_pos (by omega)]; go_simp; rfl) | (rw [if_pos (by omega)]; go_simp; rfl) | skip
                        · have d0 := Ext.cell_some hxw d0
                          have d1 := Ext.cell_some hxw d1
                          have d2 := Ext.cell_some hxw d2
                          clear hj
                          go_simp
                          try go_bits
                          first | rfl | (rw [if_pos (by omega), if_pos (by omega)]; go_simp; rfl) | (rw [if_pos (by omega)]; go_simp; rfl) | skip
                        · have d0 := Ext.cell_some hxw d0
                          have d1 := Ext.cell_some hxw d1
                          have d2 := Ext.cell_some hxw d2
                          clear hj
                          go_simp
                          try go_bits
                          first | rfl | (rw [if_pos (by omega), if_pos (by omega)]; go_simp; rfl) | (rw [if_pos (by omega)]; go_simp; rfl) | skip
                        · have d0 := Ext.cell_some hxw d0
                          have d1 := Ext.cell_some hxw d1
                          have d2 := Ext.cell_some hxw d2
                          clear hj
                          go_simp
                          try go_bits
                          first | rfl | (rw [if_pos (by omega), if_pos (by omega)]; go_simp; rfl) | (rw [if_pos (by omega)]; go_simp; rfl) | skip
                        · have d0 := Ext.cell_some hxw d0
                          have d1 := Ext.cell_some hxw d1
                          have d2 := Ext.cell_some hxw d2
                          clear hj
                          go_simp
                          try go_bits
                          first | rfl | (rw [if_pos (by omega), if_pos (by omega)]; go_simp; rfl) | (rw [if_pos (by omega)]; go_simp; rfl) | skip
                        · have d0 := Ext.cell_some hxw d0
                          have d1 := Ext.cell_some hxw d1
                          have d2 := Ext.cell_some hxw d2
                          clear hj
                          go_simp
                          try go_bits
                          first | rfl | (rw [if_pos (by omega), if_pos (by omega)]; go_simp; rfl) | (rw [if_pos (by omega)]; go_simp; rfl) | skip
                        · have d0 := Ext.cell_some hxw d0
                          have d1 := Ext.cell_some hxw d1
                          have d2 := Ext.cell_some hxw d2
                          clear hj
                          go_simp
                          try go_bits
                          first | rfl | (rw [if_pos (by omega), if_pos (by omega)]; go_simp; rfl) | (rw [if_pos (by omega)]; go_simp; rfl) | skip
                        · have d0 := Ext.cell_some hxw d0
                          have d1 := Ext.cell_some hxw d1
                          have d2 := Ext.cell_some hxw d2
                          clear hj
                          go_simp
                          try go_bits
                          exact boxOf_new _ _ _
                      case' hx8_35_p =>
                        intro vs w8 hx8 hk
                        have k10 : BoxOf _ (vs 10) w8 := hk 10 _ rfl
                        clear hk
                        replace d0 := Ext.cell_some hx8 d0
                        replace d1 := Ext.cell_some hx8 d1
                        replace d2 := Ext.cell_some hx8 d2
                        replace hrow := Own.ext hrow hx8
                        replace hxw := Ext.trans hxw hx8
                        go_simp
                        obtain ⟨bx, hbx, hcx⟩ := k10
                        rw [hbx]
                        clear hbx d0 d1 d2 hx8
                        go_wp2_with (at_builtin; refine wpList_append_one rfl (.tmp 95) (.tmp 105) 63 rfl 3 _ _ Try.underlying63 infoInt rfl w4.heap.size _ _ rfl hrow bx _ rfl hcx rfl hl1 hl2 w4 rfl hxw ?_; intro v' w9 hown9 hx9 hmv)
                        have hsl9 : ∃ g n c, v' = .slice (some ⟨g, 0, none⟩) n c := by
                          rcases hown9.shape with ⟨_, h⟩ | ⟨g', c', h, _⟩
                          · simp at h
                          · exact ⟨g', _, c', h⟩
                        go_roundw
                        case rel => exact ⟨y + 1, by omega, by go_num, by rw [HS.out, if_pos HCC.out]; simpa [ncells] using hown9, hsl9, hx9⟩
                        case measure => simp [intOf]; omega
                  · have hccn : ((o[q1].toNat : Int) == (o[q2].toNat : Int)) = false := by
                      have h : ¬ o[q1].toNat = o[q2].toNat := fun h => hcc (UInt8.toNat_inj.1 h)
                      simp; omega
                    have HCC := Lib.hid hcc
                    clear hcc
                    go_wp2
                    refine wp_region_inv (by kernel_rfl) (.known ?hx7_36_v0 :: .known ?hx7_36_v1 :: .known ?hx7_36_v2 :: .known ?hx7_36_v3 :: .known ?hx7_36_v4 :: .known ?hx7_36_v5 :: .known ?hx7_36_v6 :: .known ?hx7_36_v7 :: .known ?hx7_36_v8 :: []) rfl (by kernel_rfl) ?hx7_36_s ?hx7_36_p
                    case hx7_36_s =>
                      intro vs
                      refine ⟨fun w' hxw hj => ?_, fun w' hxw hj => ?_, fun w' hxw hj => ?_, fun w' hxw hj => ?_, fun w' hxw hj => ?_, fun w' hxw hj => ?_, fun w' hxw hj => ?_, fun w' hxw hj => ?_, fun w' hxw hj => ?_, trivial⟩
                      · have d0 := Ext.cell_some hxw d0
                        have d1 := Ext.cell_some hxw d1
                        have d2 := Ext.cell_some hxw d2
                        clear hj
                        go_simp
                        try go_bits
                        first | rfl | (rw [if_pos (by omega), if_pos (by omega)]; go_simp; rfl) | (rw [if_pos (by omega)]; go_simp; rfl) | skip
                      · have d0 := Ext.cell_some hxw d0
                        have d1 := Ext.cell_some hxw d1
                        have d2 := Ext.cell_some hxw d2
                        clear hj
                        go_simp
                        try go_bits
                        first | rfl | (rw [if_pos (by omega), if_pos (by omega)]; go_simp; rfl) | (rw [if_pos (by omega)]; go_simp; rfl) | skip
                      · have d0 := Ext.cell_some hxw d0
                        have d1 := Ext.cell_some hxw d1
                        have d2 := Ext.cell_some hxw d2
                        clear hj
                        go_simp
                        try go_bits
                        first | rfl | (rw [if_pos (by omega), if_pos (by omega)]; go_simp; rfl) | (rw [if_pos (by omega)]; go_simp; rfl) | skip
                      · have d0 := Ext.cell_some hxw d0
                        have d1 := Ext.cell_some hxw d1
                        have d2 := Ext.cell_some hxw d2
                        clear hj
                        go_simp
                        try go_bits
                        first | rfl | (rw [if_pos (by omega), if_pos (by omega)]; go_simp; rfl) | (rw [if_pos (by omega)]; go_simp; rfl) | skip
                      · have d0 := Ext.cell_some hxw d0
                        have d1 := Ext.cell_some hxw d1
                        have d2 := Ext.cell_some hxw d2
                        clear hj
                        go_simp
                        try go_bits
                        first | rfl | (rw [if_pos (by omega), if_pos (by omega)]; go_simp; rfl) | (rw [if_pos (by omega)]; go_simp; rfl) | skip
                      · have d0 := Ext.cell_some hxw d0
                        have d1 := Ext.cell_some hxw d1
                        have d2 := Ext.cell_some hxw d2
                        clear hj
                        go_simp
                        try go_bits
                        first | rfl | (rw [if_pos (by omega), if_pos (by omega)]; go_simp; rfl) | (rw [if_pos (by omega)]; go_simp; rfl) | skip
                      · have d0 := Ext.cell_some hxw d0
                        have d1 := Ext.cell_some hxw d1
                        have d2 := Ext.cell_some hxw d2
                        clear hj
                        go_simp
                        try go_bits
                        first | rfl | (rw [if_pos (by omega), if_pos (by omega)]; go_simp; rfl) | (rw [if_pos (by omega)]; go_simp; rfl) | skip
                      · have d0 := Ext.cell_some hxw d0
                        have d1 := Ext.cell_some hxw d1
                        have d2 := Ext.cell_some hxw d2
                        clear hj
                        go_simp
                        try go_bits
                        first | rfl | (rw [if_pos (by omega), if_pos (by omega)]; go_simp; rfl) | (rw [if_pos (by omega)]; go_simp; rfl) | skip
                      · have d0 := Ext.cell_some hxw d0
                        have d1 := Ext.cell_some hxw d1
                        have d2 := Ext.cell_some hxw d2
                        clear hj
                        go_simp
                        try go_bits
                        first | rfl | (rw [if_pos (by omega), if_pos (by omega)]; go_simp; rfl) | (rw [if_pos (by omega)]; go_simp; rfl) | skip
                    case' hx7_36_p =>
                      intro vs w7 hx7 hk
                      clear hk
                      replace d0 := Ext.cell_some hx7 d0
                      replace d1 := Ext.cell_some hx7 d1
                      replace d2 := Ext.cell_some hx7 d2
                      replace hrow := Own.ext hrow hx7
                      replace hxw := Ext.trans hxw hx7
                      go_simp
                      clear hx7 d0 d1 d2
                      go_wp2
                      go_roundw
                      case rel => exact ⟨y + 1, by omega, by go_num, by rw [HS.out, if_neg HCC.out, List.append_nil]; exact hrow, hsl, hxw⟩
                      case measure => simp [intOf]; omega
              · have hyK : y = K := by omega
                subst hyK
                rw [rowIn_all] at hrow
                go_wp2
                go_roundw
                case rel => exact ⟨x + 1, by omega, by go_num, hrow, hsl, hxw⟩
                case measure => simp [intOf]; omega
          · have hxK : x = K := by omega
            obtain ⟨rg, rn, rc, rfl⟩ := hsl
            have hTb := (hT.ext hxw).ext (Ext.alloc wr (.cells #[.slice (some ⟨rg, 0, none⟩) rn rc] 63))
            have hrowb := (hrow.ext (Ext.alloc wr (.cells #[.slice (some ⟨rg, 0, none⟩) rn rc] 63))).mono (B' := w1.heap.size) (Ext.size hxr)
            have hne : ∀ k, (Value.slice (some ⟨rg, 0, none⟩) rn rc).ownBlock = some k → u6.ownBlock ≠ some k := by
              intro k hk hk2
              have h1 := (World.ownsRow.lt hrow k hk).1
              have h2 := (World.ownsRow.lt hT.own k hk2).2
              omega
            have hxb := (hxr.trans hxw).trans (Ext.alloc wr (.cells #[.slice (some ⟨rg, 0, none⟩) rn rc] 63))
            have hcx : (wr.alloc (.cells #[.slice (some ⟨rg, 0, none⟩) rn rc] 63)).cell? ⟨wr.heap.size, 0, none⟩ = some (.slice (some ⟨rg, 0, none⟩) rn rc) := by simp
            have hfl : fs.length ≤ 81 := by
              rw [hT.len]
              simp
              omega
            have hl1 : fs.length + 1 ≤ maxLen := by unfold maxLen; omega
            have hl2 : (fs.length + 1) * 24 ≤ 140737488355328 := by omega
            have HT := Lib.hid (And.intro hTb (And.intro hrowb hne))
            have hownb := hTb.own
            clear hTb hrowb hne hfl hrow hxw
            go_wp2_with (at_builtin; refine wpList_append_one rfl (.tmp 109) (.tmp 111) 75 rfl 63 _ _ Try.underlying75 infoRow rfl w1.heap.size _ _ rfl hownb wr.heap.size _ rfl hcx rfl hl1 hl2 w1 rfl hxb ?_; intro v' w9 hown9 hx9 hmv)
            have hT9 := Tab.push HT.out.1 HT.out.2.1 ⟨rg, rn, rc, rfl⟩ HT.out.2.2 hown9 hmv
            have e9 : ((stepsL K N o).take p).map ncells ++ [ncells (rowTo K N o U V x)] = ((stepsL K N o).take (p + 1)).map ncells := by
              rw [stepsL_take K N o p (by rw [← HM.out.1]; exact hlt), List.map_append, hxK, HU.out.1, HU.out.2.1]
              rfl
            rw [e9] at hT9
            clear e9
            go_roundw
            case rel => exact ⟨p + 1, _, by omega, by go_num, hT9, hx9⟩
            case measure => simp [intOf]; omega
    · have hpM : p = M := by omega
      have eall : (stepsL K N o).take p = stepsL K N o := List.take_of_length_le (by rw [stepsL_length, ← HM.out.1]; omega)
      rw [eall] at hT
      obtain ⟨wt, rfl⟩ : ∃ wt : World, wt = wr := ⟨_, rfl⟩
      have hsh := hT.own.shape
      have hfl : fs.length = M := by rw [hT.len]; simp [stepsL_length, HM.out.1]
      rw [hfl] at hsh
      rcases hsh with ⟨_, hnil⟩ | ⟨g, cap, rfl, hg, _, _, _⟩
      · exfalso
        rw [hnil] at hfl
        have : 0 < N * N := Nat.mul_pos hN1 hN1
        have := HM.out.1
        simp at hfl
        omega
      have hcall := impl_lively_any (stepsL K N o) g M cap _ fs wt hT (by rw [stepsL_length, HM.out.1]) (steps_fit hk3 hN1 hN9 o)
      have HF := Lib.hid hfl
      clear hfl eall
      go_wp2_with fail
      with_reducible refine hcall.mono ?_
      rintro e w9 ⟨z, c, rfl, hz, hx9⟩
      have hxa := (hx.trans hxr).trans hx9
      clear hcall hx9 hxr hT c0 c1 c2 bo hg
      have hll : (livelyL (stepsL K N o)).length = M := by rw [livelyL, liveN_length, stepsL_length, HM.out.1]
      have HL := Lib.hid hll
      clear hll
      go_wp2
      go_loopw [117] (fun i wr => ∃ j : Nat, j ≤ M ∧ i = .int .i64 j ∧ AllTo (diagB (livelyL (stepsL K N o)) N) j ∧ Ext w9 wr) (fun i _ => M - (intOf i).toNat)
      case atStart => exact ⟨0, by omega, rfl, AllTo.zero _, Ext.refl _⟩
      case round =>
        obtain ⟨j, hj, rfl, hall, hxq⟩ := hrel
        by_cases hltj : j < M
        · have hcj := (hz.ext hxq).cell j (by rw [tcells_length, HL.out]; exact hltj)
          rw [tcells_at _ _ (by rw [HL.out]; exact hltj)] at hcj
          have hd : diagB (livelyL (stepsL K N o)) N j = !((livelyL (stepsL K N o)).getD j false && !decide (j / N = j % N)) := rfl
          obtain ⟨x, hx'⟩ : ∃ x, x = (livelyL (stepsL K N o)).getD j false := ⟨_, rfl⟩
          rw [← hx'] at hcj hd
          obtain ⟨U, hU⟩ : ∃ U, U = j / N := ⟨_, rfl⟩
          obtain ⟨V, hV⟩ : ∃ V, V = j % N := ⟨_, rfl⟩
          have hUi : (j : Int) / (N : Int) = (U : Int) := by rw [hU]; simp
          have hVi : (j : Int) % (N : Int) = (V : Int) := by rw [hV]; simp
          have hUb : U ≤ j := by rw [hU]; exact Nat.div_le_self _ _
          rw [← hU, ← hV] at hd
          have HD := Lib.hid hd
          clear hd hx' hU hV
          cases x with
          | false =>
            have HG := Lib.hid (show diagB (livelyL (stepsL K N o)) N j = true by rw [HD.out]; simp_all)
            go_wp2
            refine wp_region_inv (by kernel_rfl) (.known ?hx5_37_v0 :: .known ?hx5_37_v1 :: .known ?hx5_37_v2 :: .known ?hx5_37_v3 :: .known ?hx5_37_v4 :: .known ?hx5_37_v5 :: .known ?hx5_37_v6 :: .known ?hx5_37_v7 :: .known ?hx5_37_v8 :: .known ?hx5_37_v9 :: []) rfl (by kernel_rfl) ?hx5_37_s ?hx5_37_p
            case hx5_37_s =>
              intro vs
              refine ⟨fun w' hxw hj => ?_, fun w' hxw hj => ?_, fun w' hxw hj => ?_, fun w' hxw hj => ?_, fun w' hxw hj => ?_, fun w' hxw hj => ?_, fun w' hxw hj => ?_, fun w' hxw hj => ?_, fun w' hxw hj => ?_, fun w' hxw hj => ?_, trivial⟩
              · have hcj := Ext.cell_some hxw hcj
                clear hj
                go_simp
                try go_bits
                first | rfl | (rw [if_pos (by omega), if_pos (by omega)]; go_simp; rfl) | (rw [if_pos (by omega)]; go_simp; rfl) | skip
              · have hcj := Ext.cell_some hxw hcj
                clear hj
                go_simp
                try go_bits
                first | rfl | (rw [if_pos (by omega), if_pos (by omega)]; go_simp; rfl) | (rw [if_pos (by omega)]; go_simp; rfl) | skip
              · have hcj := Ext.cell_some hxw hcj
                clear hj
                go_simp
                try go_bits
                first | rfl | (rw [if_pos (by omega), if_pos (by omega)]; go_simp; rfl) | (rw [if_pos (by omega)]; go_simp; rfl) | skip
              · have hcj := Ext.cell_some hxw hcj
                clear hj
                go_simp
                try go_bits
                first | rfl | (rw [if_pos (by omega), if_pos (by omega)]; go_simp; rfl) | (rw [if_pos (by omega)]; go_simp; rfl) | skip
              · have hcj := Ext.cell_some hxw hcj
                clear hj
                go_simp
                try go_bits
                first | rfl | (rw [if_pos (by omega), if_pos (by omega)]; go_simp; rfl) | (rw [if_pos (by omega)]; go_simp; rfl) | skip
              · have hcj := Ext.cell_some hxw hcj
                clear hj
                go_simp
                try go_bits
                first | rfl | (rw [if_pos (by omega), if_pos (by omega)]; go_simp; rfl) | (rw [if_pos (by omega)]; go_simp; rfl) | skip
              · have hcj := Ext.cell_some hxw hcj
                clear hj
                go_simp
                try go_bits
                first | rfl | (rw [if_pos (by omega), if_pos (by omega)]; go_simp; rfl) | (rw [if_pos (by omega)]; go_simp; rfl) | skip
              · have hcj := Ext.cell_some hxw hcj
                clear hj
                go_simp
                try go_bits
                first | rfl | (rw [if_pos (by omega), if_pos (by omega)]; go_simp; rfl) | (rw [if_pos (by omega)]; go_simp; rfl) | skip
              · have hcj := Ext.cell_some hxw hcj
                clear hj
                go_simp
                try go_bits
                first | rfl | (rw [if_pos (by omega), if_pos (by omega)]; go_simp; rfl) | (rw [if_pos (by omega)]; go_simp; rfl) | skip
              · have hcj := Ext.cell_some hxw hcj
                clear hj
                go_simp
                try go_bits
                first | rfl | (rw [if_pos (by omega), if_pos (by omega)]; go_simp; rfl) | (rw [if_pos (by omega)]; go_simp; rfl) | skip
            case' hx5_37_p =>
              intro vs w5 hx5 hk
              clear hk
              replace hcj := Ext.cell_some hx5 hcj
              replace hxq := Ext.trans hxq hx5
              go_simp
              clear hx5 hcj
              go_wp2
              go_roundw
              case rel => exact ⟨j + 1, by omega, by go_num, hall.succ HG.out, hxq⟩
              case measure => simp [intOf]; omega
          | true =>
            by_cases hUV : U = V
            · subst hUV
              have hb1 : ((U : Int) != (U : Int)) = false := by simp
              have HG := Lib.hid (show diagB (livelyL (stepsL K N o)) N j = true by rw [HD.out]; simp_all)
              go_wp2
              refine wp_region_inv (by kernel_rfl) (.known ?hx5_38_v0 :: .known ?hx5_38_v1 :: .known ?hx5_38_v2 :: .known ?hx5_38_v3 :: .known ?hx5_38_v4 :: .known ?hx5_38_v5 :: .known ?hx5_38_v6 :: .known ?hx5_38_v7 :: .known ?hx5_38_v8 :: .known ?hx5_38_v9 :: []) rfl (by kernel_rfl) ?hx5_38_s ?hx5_38_p
              case hx5_38_s =>
                intro vs
                refine ⟨fun w' hxw hj => ?_, fun w' hxw hj => ?_, fun w' hxw hj => ?_, fun w' hxw hj => ?_, fun w' hxw hj => ?_, fun w' hxw hj => ?_, fun w' hxw hj => ?_, fun w' hxw hj => ?_, fun w' hxw hj => ?_, fun w' hxw hj => ?_, trivial⟩
                · have hcj := Ext.cell_some hxw hcj
                  clear hj
                  go_simp
                  try go_bits
                  first | rfl | (rw [if_pos (by omega), if_pos (by omega)]; go_simp; rfl) | (rw [if_pos (by omega)]; go_simp; rfl) | skip
                · have hcj := Ext.cell_some hxw hcj
                  clear hj
                  go_simp
                  try go_bits
                  first | rfl | (rw [if_pos (by omega), if_pos (by omega)]; go_simp; rfl) | (rw [if_pos (by omega)]; go_simp; rfl) | skip
                · have hcj := Ext.cell_some hxw hcj
                  clear hj
                  go_simp
                  try go_bits
                  first | rfl | (rw [if_pos (by omega), if_pos (by omega)]; go_simp; rfl) | (rw [if_pos (by omega)]; go_simp; rfl) | skip
                · have hcj := Ext.cell_some hxw hcj
                  clear hj
                  go_simp
                  try go_bits
                  first | rfl | (rw [if_pos (by omega), if_pos (by omega)]; go_simp; rfl) | (rw [if_pos (by omega)]; go_simp; rfl) | skip
                · have hcj := Ext.cell_some hxw hcj
                  clear hj
                  go_simp
                  try go_bits
                  first | rfl | (rw [if_pos (by omega), if_pos (by omega)]; go_simp; rfl) | (rw [if_pos (by omega)]; go_simp; rfl) | skip
                · have hcj := Ext.cell_some hxw hcj
                  clear hj
                  go_simp
                  try go_bits
                  first | rfl | (rw [if_pos (by omega), if_pos (by omega)]; go_simp; rfl) | (rw [if_pos (by omega)]; go_simp; rfl) | skip
                · have hcj := Ext.cell_some hxw hcj
                  clear hj
                  go_simp
                  try go_bits
                  first | rfl | (rw [if_pos (by omega), if_pos (by omega)]; go_simp; rfl) | (rw [if_pos (by omega)]; go_simp; rfl) | skip
                · have hcj := Ext.cell_some hxw hcj
                  clear hj
                  go_simp
                  try go_bits
                  first | rfl | (rw [if_pos (by omega), if_pos (by omega)]; go_simp; rfl) | (rw [if_pos (by omega)]; go_simp; rfl) | skip
                · have hcj := Ext.cell_some hxw hcj
                  clear hj
                  go_simp
                  try go_bits
                  first | rfl | (rw [if_pos (by omega), if_pos (by omega)]; go_simp; rfl) | (rw [if_pos (by omega)]; go_simp; rfl) | skip
                · have hcj := Ext.cell_some hxw hcj
                  clear hj
                  go_simp
                  try go_bits
                  first | rfl | (rw [if_pos (by omega), if_pos (by omega)]; go_simp; rfl) | (rw [if_pos (by omega)]; go_simp; rfl) | skip
              case' hx5_38_p =>
                intro vs w5 hx5 hk
                clear hk
                replace hcj := Ext.cell_some hx5 hcj
                replace hxq := Ext.trans hxq hx5
                go_simp
                clear hx5 hcj
                go_wp2
                go_roundw
                case rel => exact ⟨j + 1, by omega, by go_num, hall.succ HG.out, hxq⟩
                case measure => simp [intOf]; omega
            · have hb1 : ((U : Int) != (V : Int)) = true := by simp; omega
              have HG := Lib.hid (AllTo.bad (p := diagB (livelyL (stepsL K N o)) N) hltj (by rw [HD.out]; simp [hUV]))
              go_wp2
              refine wp_region_inv (by kernel_rfl) (.known ?hx5_39_v0 :: .known ?hx5_39_v1 :: .known ?hx5_39_v2 :: .known ?hx5_39_v3 :: .known ?hx5_39_v4 :: .known ?hx5_39_v5 :: .known ?hx5_39_v6 :: .known ?hx5_39_v7 :: .known ?hx5_39_v8 :: .known ?hx5_39_v9 :: []) rfl (by kernel_rfl) ?hx5_39_s ?hx5_39_p
              case hx5_39_s =>
                intro vs
                refine ⟨fun w' hxw hj => ?_, fun w' hxw hj => ?_, fun w' hxw hj => ?_, fun w' hxw hj => ?_, fun w' hxw hj => ?_, fun w' hxw hj => ?_, fun w' hxw hj => ?_, fun w' hxw hj => ?_, fun w' hxw hj => ?_, fun w' hxw hj => ?_, trivial⟩
                · have hcj := Ext.cell_some hxw hcj
                  clear hj
                  go_simp
                  try go_bits
                  first | rfl | (rw [if_pos (by omega), if_pos (by omega)]; go_simp; rfl) | (rw [if_pos (by omega)]; go_simp; rfl) | skip
                · have hcj := Ext.cell_some hxw hcj
                  clear hj
                  go_simp
                  try go_bits
                  first | rfl | (rw [if_pos (by omega), if_pos (by omega)]; go_simp; rfl) | (rw [if_pos (by omega)]; go_simp; rfl) | skip
                · have hcj := Ext.cell_some hxw hcj
                  clear hj
                  go_simp
                  try go_bits
                  first | rfl | (rw [if_pos (by omega), if_pos (by omega)]; go_simp; rfl) | (rw [if_pos (by omega)]; go_simp; rfl) | skip
                · have hcj := Ext.cell_some hxw hcj
                  clear hj
                  go_simp
                  try go_bits
                  first | rfl | (rw [if_pos (by omega), if_pos (by omega)]; go_simp; rfl) | (rw [if_pos (by omega)]; go_simp; rfl) | skip
                · have hcj := Ext.cell_some hxw hcj
                  clear hj
                  go_simp
                  try go_bits
                  first | rfl | (rw [if_pos (by omega), if_pos (by omega)]; go_simp; rfl) | (rw [if_pos (by omega)]; go_simp; rfl) | skip
                · have hcj := Ext.cell_some hxw hcj
                  clear hj
                  go_simp
                  try go_bits
                  first | rfl | (rw [if_pos (by omega), if_pos (by omega)]; go_simp; rfl) | (rw [if_pos (by omega)]; go_simp; rfl) | skip
                · have hcj := Ext.cell_some hxw hcj
                  clear hj
                  go_simp
                  try go_bits
                  first | rfl | (rw [if_pos (by omega), if_pos (by omega)]; go_simp; rfl) | (rw [if_pos (by omega)]; go_simp; rfl) | skip
                · have hcj := Ext.cell_some hxw hcj
                  clear hj
                  go_simp
                  try go_bits
                  first | rfl | (rw [if_pos (by omega), if_pos (by omega)]; go_simp; rfl) | (rw [if_pos (by omega)]; go_simp; rfl) | skip
                · have hcj := Ext.cell_some hxw hcj
                  clear hj
                  go_simp
                  try go_bits
                  first | rfl | (rw [if_pos (by omega), if_pos (by omega)]; go_simp; rfl) | (rw [if_pos (by omega)]; go_simp; rfl) | skip
                · have hcj := Ext.cell_some hxw hcj
                  clear hj
                  go_simp
                  try go_bits
                  first | rfl | (rw [if_pos (by omega), if_pos (by omega)]; go_simp; rfl) | (rw [if_pos (by omega)]; go_simp; rfl) | skip
              case' hx5_39_p =>
                intro vs w5 hx5 hk
                clear hk
                replace hcj := Ext.cell_some hx5 hcj
                replace hxq := Ext.trans hxq hx5
                go_simp
                clear hx5 hcj
                go_wp2
                go_ret
                exact ⟨ret_bool (by rw [HM.out.2.1, HG.out]), hxa.trans hxq⟩
        · have hjM : j = M := by omega
          subst hjM
          go_wp2
          go_ret
          exact ⟨ret_bool (by rw [HM.out.2.1, hall.all]), hxa.trans hxq⟩
end Go.Proofs.Ytfkdpeifnfpldaa

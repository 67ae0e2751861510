/- Contract: the reference's pairs that follow each pair of ends. -/
import Derived.Test.YtfkdpeifnfpldaaOneA
import Derived.Test.YtfkdpeifnfpldaaLiveB
namespace Go.Proofs.Ytfkdpeifnfpldaa
open Go.RowKit Go.Cm

theorem div_pair {N u v : Nat} (hv : v < N) : (u * N + v) / N = u := by
  rw [Nat.add_comm, Nat.add_mul_div_right _ _ (by omega), Nat.div_eq_of_lt hv, Nat.zero_add]
theorem mod_pair {N u v : Nat} (hv : v < N) : (u * N + v) % N = v := by
  rw [Nat.add_comm, Nat.add_mul_mod_self_right, Nat.mod_eq_of_lt hv]

set_option maxRecDepth 100000 in
set_option maxHeartbeats 8000000 in
theorem spec_l13Steps_any (K n m N : Nat) (o : ByteArray) (w : World) (hf : CodeFit K n o) (hn : n = m + 1) (hm : 1 ≤ m) (hN : N = K ^ m) :
    Calls Try.prog 73 #[.agg #[.int .i64 K, .int .i64 n, .string o]] w fun e w' => ∃ g M cap B fs, M = N * N ∧ e = .returned (.slice (some ⟨g, 0, none⟩) M cap) ∧ Tab w' B 63 3 (.slice (some ⟨g, 0, none⟩) M cap) fs ((stepsL K N o).map ncells) ∧ Ext w w' := by
  have hk2 := hf.k2
  have hk3 := hf.k3
  have hn4 := hf.n4
  have hNK : N * K ≤ 27 := by have := hf.le; rwa [hn, Nat.pow_succ, ← hN] at this
  have hos : o.size = N * K := by rw [hf.size, hn, Nat.pow_succ, hN]
  have hN1 : 0 < N := by rw [hN]; exact Nat.pow_pos (by omega)
  have hN9 : N ≤ 9 := by
    by_cases h2 : K = 2
    · have h1 : 2 ^ m ≤ 2 ^ 3 := Nat.pow_le_pow_right (by omega) (by omega)
      rw [hN, h2]
      omega
    · have h3 : K = 3 := by omega
      rw [h3] at hNK
      omega
  have hNne : ¬ N = 0 := by omega
  have e1 : (n : Int) - 1 = m := by omega
  have hpw : ∀ w, Calls Try.prog 61 #[.int .i64 K, .int .i64 m] w fun e w' => e = .returned (.int .i64 (N : Nat)) ∧ w = w' := by
    intro w
    have h := spec_l11Power_any (K : Int) (m : Int) w (by omega) (by omega) (by omega) (by omega)
    rw [pw_nat, ← hN] at h
    exact h
  have HP := Lib.hid hpw
  have HM := Lib.hid (And.intro (show N * N = N * N from rfl) (And.intro True.intro (And.intro hos hNK)))
  clear hpw hn hN hos
  go_enter Try.func73, Try.ntmps73
  go_wp2_with fail
  with_reducible refine (HP.out _).mono ?_
  rintro e w1 ⟨rfl, rfl⟩
  have bo : Blk (w.alloc (.cells #[.int .i64 K, .int .i64 n, .string o] 25)) w.heap.size #[.int .i64 K, .int .i64 n, .string o] := by (repeat (first | (refine Blk.mk' ?_; (simp; done)) | apply Blk.old))
  have hx : Ext w (w.alloc (.cells #[.int .i64 K, .int .i64 n, .string o] 25)) := Ext.alloc _ _
  have hsz : (w.alloc (.cells #[.int .i64 K, .int .i64 n, .string o] 25)).heap.size = w.heap.size + 1 := by simp
  obtain ⟨w1, hw1⟩ : ∃ w1 : World, w1 = w.alloc (.cells #[.int .i64 K, .int .i64 n, .string o] 25) := ⟨_, rfl⟩
  rw [← hw1] at bo hx hsz ⊢
  clear hw1
  have hT0 : Tab (w1.alloc (.cells #[] 63)) w1.heap.size 63 3 (.slice (some ⟨w1.heap.size, 0, none⟩) 0 0) [] (((stepsL K N o).take (0 * N)).map ncells) := by
    have e : (0 * N) = 0 := by omega
    rw [e]
    exact Tab.nil (Own.lit w1 63 [] (by simp))
  have hx0 := Ext.alloc w1 (.cells #[] 63)
  go_wp2
  go_loopw [4, 5] (fun v i wr => ∃ (U : Nat) (fs : List Value), U ≤ N ∧ i = .int .i64 U ∧ Tab wr w1.heap.size 63 3 v fs (((stepsL K N o).take (U * N)).map ncells) ∧ Ext w1 wr) (fun _ i _ => N - (intOf i).toNat)
  case atStart => exact ⟨0, [], by omega, rfl, by rw [← hsz]; exact hT0, hx0⟩
  case round =>
    clear hT0 hx0
    obtain ⟨U, fs, hU', rfl, hT, hxr⟩ := hrel
    by_cases hltU : U < N
    · obtain ⟨ua, hua⟩ : ∃ ua, ua = U * K := ⟨_, rfl⟩
      have huai : (U : Int) * (K : Int) = (ua : Int) := by rw [hua]; simp
      have huab : ua + K ≤ N * K := by rw [hua, ← Nat.succ_mul]; exact Nat.mul_le_mul_right _ hltU
      have ho27 : o.size ≤ 27 := by have := HM.out.2.2; omega
      rw [← HM.out.2.2.1] at huab
      have HUA := Lib.hid hua
      clear hua
      obtain ⟨w2, rfl⟩ : ∃ w2 : World, w2 = wr := ⟨_, rfl⟩
      go_wp2
      go_loopw [4, 6] (fun v i wr => ∃ (V : Nat) (fs : List Value), V ≤ N ∧ i = .int .i64 V ∧ Tab wr w1.heap.size 63 3 v fs (((stepsL K N o).take (U * N + V)).map ncells) ∧ Ext w1 wr) (fun _ i _ => N - (intOf i).toNat)
      case atStart => exact ⟨0, fs, by omega, rfl, hT, hxr⟩
      case round =>
        clear hT hxr
        obtain ⟨V, fs, hV', rfl, hT, hxr⟩ := hrel
        by_cases hltV : V < N
        · obtain ⟨va, hva⟩ : ∃ va, va = V * K := ⟨_, rfl⟩
          have hvai : (V : Int) * (K : Int) = (va : Int) := by rw [hva]; simp
          have hvab : va + K ≤ N * K := by rw [hva, ← Nat.succ_mul]; exact Nat.mul_le_mul_right _ hltV
          rw [← HM.out.2.2.1] at hvab
          have HU := Lib.hid (And.intro True.intro (And.intro True.intro (And.intro HUA.out hva)))
          clear hva
          obtain ⟨w4, rfl⟩ : ∃ w4 : World, w4 = wr := ⟨_, rfl⟩
          have hw0 : Own (w4.alloc (.cells #[] 3)) w4.heap.size 3 (.slice (some ⟨w4.heap.size, 0, none⟩) 0 0) (ncells (rowTo K N o U V 0)) := by
            simpa [ncells, rowTo] using Own.lit w4 3 [] (by simp)
          have hx40 := Ext.alloc w4 (.cells #[] 3)
          go_wp2
          go_loopw [7, 8] (fun v i wr => ∃ x : Nat, x ≤ K ∧ i = .int .i64 x ∧ Own wr w4.heap.size 3 v (ncells (rowTo K N o U V x)) ∧ (∃ g n c, v = .slice (some ⟨g, 0, none⟩) n c) ∧ Ext w4 wr) (fun _ i _ => K - (intOf i).toNat)
          case atStart => exact ⟨0, by omega, rfl, hw0, ⟨_, _, _, rfl⟩, hx40⟩
          case round =>
            clear hw0 hx40
            obtain ⟨x, hx', rfl, hrow, hsl, hxw⟩ := hrel
            obtain ⟨d0, d1, d2, -, -, -⟩ := ((bo.ext hxr).ext hxw).c3
            by_cases hltx : x < K
            · rw [← rowIn_zero] at hrow
              obtain ⟨w5, rfl⟩ : ∃ w5 : World, w5 = wr := ⟨_, rfl⟩
              go_wp2
              go_loopw [7, 9] (fun v i wr => ∃ y : Nat, y ≤ K ∧ i = .int .i64 y ∧ Own wr w4.heap.size 3 v (ncells (rowIn K N o U V x y)) ∧ (∃ g n c, v = .slice (some ⟨g, 0, none⟩) n c) ∧ Ext w4 wr) (fun _ i _ => K - (intOf i).toNat)
              case atStart => exact ⟨0, by omega, rfl, hrow, hsl, hxw⟩
              case round =>
                clear hrow hsl hxw d0 d1 d2
                obtain ⟨y, hy', rfl, hrow, hsl, hxw⟩ := hrel
                obtain ⟨d0, d1, d2, -, -, -⟩ := ((bo.ext hxr).ext hxw).c3
                by_cases hlty : y < K
                · have hdummy := True.intro
                  obtain ⟨q1, hq1⟩ : ∃ q1, q1 = ua + x := ⟨_, rfl⟩
                  obtain ⟨q2, hq2⟩ : ∃ q2, q2 = va + y := ⟨_, rfl⟩
                  have hq1i : (ua : Int) + (x : Int) = (q1 : Int) := by omega
                  have hq2i : (va : Int) + (y : Int) = (q2 : Int) := by omega
                  have hq1o : q1 < o.size := by omega
                  have hq2o : q2 < o.size := by omega
                  obtain ⟨m1, hm1⟩ : ∃ m1, m1 = q1 % N := ⟨_, rfl⟩
                  obtain ⟨m2, hm2⟩ : ∃ m2, m2 = q2 % N := ⟨_, rfl⟩
                  have hm1i : (q1 : Int) % (N : Int) = (m1 : Int) := by rw [hm1]; simp
                  have hm2i : (q2 : Int) % (N : Int) = (m2 : Int) := by rw [hm2]; simp
                  have hm1N : m1 < N := by rw [hm1]; exact Nat.mod_lt _ hN1
                  have hm2N : m2 < N := by rw [hm2]; exact Nat.mod_lt _ hN1
                  obtain ⟨ma, hma⟩ : ∃ ma, ma = m1 * N := ⟨_, rfl⟩
                  have hmai : (m1 : Int) * (N : Int) = (ma : Int) := by rw [hma]; simp
                  have hmab : ma ≤ 81 := by
                    have : m1 * N ≤ 9 * 9 := Nat.mul_le_mul (by omega) hN9
                    omega
                  have hps : pairS K N o U V x y = if o[q1] = o[q2] then [ma + m2] else [] := by
                    unfold pairS
                    rw [← HU.out.2.2.1, ← HU.out.2.2.2, ← hq1, ← hq2, ← hm1, ← hm2, ← hma]
                    have e1 : o.data.toList.getD q1 0 = o[q1] := by rw [List.getD_eq_getElem?_getD, List.getElem?_eq_getElem (by simpa using hq1o)]; rfl
                    have e2 : o.data.toList.getD q2 0 = o[q2] := by rw [List.getD_eq_getElem?_getD, List.getElem?_eq_getElem (by simpa using hq2o)]; rfl
                    rw [e1, e2]
                  have hsucc := rowIn_succ K N o U V x y
                  rw [hps] at hsucc
                  have hlen := rowIn_length K N o U V x y
                  have hxK : x * K ≤ 3 * 3 := Nat.mul_le_mul (by omega) hk3
                  have hl1 : (ncells (rowIn K N o U V x y)).length + 1 ≤ maxLen := by rw [ncells_length]; unfold maxLen; omega
                  have hl2 : ((ncells (rowIn K N o U V x y)).length + 1) * 8 ≤ 140737488355328 := by rw [ncells_length]; omega
                  have HS := Lib.hid hsucc
                  clear hsucc hps hlen hxK hq1 hq2 hm1 hm2 hma
                  by_cases hcc : o[q1] = o[q2]
                  · have hccn : ((o[q1].toNat : Int) == (o[q2].toNat : Int)) = true := by simp [hcc]
                    have HCC := Lib.hid hcc
                    clear hcc
                    go_wp2
                    refine wp_region_inv (by kernel_rfl) (.known ?hx7_22_v0 :: .known ?hx7_22_v1 :: .known ?hx7_22_v2 :: .known ?hx7_22_v3 :: .known ?hx7_22_v4 :: .known ?hx7_22_v5 :: .known ?hx7_22_v6 :: .known ?hx7_22_v7 :: .known ?hx7_22_v8 :: .known ?hx7_22_v9 :: .known ?hx7_22_v10 :: .known ?hx7_22_v11 :: .known ?hx7_22_v12 :: .known ?hx7_22_v13 :: .known ?hx7_22_v14 :: .known ?hx7_22_v15 :: .known ?hx7_22_v16 :: .known ?hx7_22_v17 :: .known ?hx7_22_v18 :: []) rfl (by kernel_rfl) ?hx7_22_s ?hx7_22_p
                    case hx7_22_s =>
                      intro vs
                      refine ⟨fun w' hxw hj => ?_, fun w' hxw hj => ?_, fun w' hxw hj => ?_, fun w' hxw hj => ?_, fun w' hxw hj => ?_, fun w' hxw hj => ?_, fun w' hxw hj => ?_, fun w' hxw hj => ?_, fun w' hxw hj => ?_, fun w' hxw hj => ?_, fun w' hxw hj => ?_, fun w' hxw hj => ?_, fun w' hxw hj => ?_, fun w' hxw hj => ?_, fun w' hxw hj => ?_, fun w' hxw hj => ?_, fun w' hxw hj => ?_, fun w' hxw hj => ?_, fun w' hxw hj => ?_, trivial⟩
                      · have d0 := Ext.cell_some hxw d0
                        have d1 := Ext.cell_some hxw d1
                        have d2 := Ext.cell_some hxw d2
                        clear hj
                        go_simp
                        try go_bits
                        first | rfl | (rw [if_pos (by omega), if_pos (by omega)]; go_simp; rfl) | (rw [if_pos (by omega)]; go_simp; rfl) | skip
                      · have d0 := Ext.cell_some hxw d0
                        have d1 := Ext.cell_some hxw d1
                        have d2 := Ext.cell_some hxw d2
                        clear hj
                        go_simp
                        try go_bits
                        first | rfl | (rw [if_pos (by omega), if_pos (by omega)]; go_simp; rfl) | (rw [if_pos (by omega)]; go_simp; rfl) | skip
                      · have d0 := Ext.cell_some hxw d0
                        have d1 := Ext.cell_some hxw d1
                        have d2 := Ext.cell_some hxw d2
                        clear hj
                        go_simp
                        try go_bits
                        first | rfl | (rw [if_pos (by omega), if_pos (by omega)]; go_simp; rfl) | (rw [if_pos (by omega)]; go_simp; rfl) | skip
                      · have d0 := Ext.cell_some hxw d0
                        have d1 := Ext.cell_some hxw d1
                        have d2 := Ext.cell_some hxw d2
                        clear hj
                        go_simp
                        try go_bits
                        first | rfl | (rw [if_pos (by omega), if_pos (by omega)]; go_simp; rfl) | (rw [if_pos (by omega)]; go_simp; rfl) | skip
                      · have d0 := Ext.cell_some hxw d0
                        have d1 := Ext.cell_some hxw d1
                        have d2 := Ext.cell_some hxw d2
                        clear hj
                        go_simp
                        try go_bits
                        first | rfl | (rw [if_pos (by omega), if_pos (by omega)]; go_simp; rfl) | (rw [if_pos (by omega)]; go_simp; rfl) | skip
                      · have d0 := Ext.cell_some hxw d0
                        have d1 := Ext.cell_some hxw d1
                        have d2 := Ext.cell_some hxw d2
                        clear hj
                        go_simp
                        try go_bits
                        first | rfl | (rw [if_pos (by omega), if_pos (by omega)]; go_simp; rfl) | (rw [if_pos (by omega)]; go_simp; rfl) | skip
                      · have d0 := Ext.cell_some hxw d0
                        have d1 := Ext.cell_some hxw d1
                        have d2 := Ext.cell_some hxw d2
                        clear hj
                        go_simp
                        try go_bits
                        first | rfl | (rw [if_pos (by omega), if_pos (by omega)]; go_simp; rfl) | (rw [if_pos (by omega)]; go_simp; rfl) | skip
                      · have d0 := Ext.cell_some hxw d0
                        have d1 := Ext.cell_some hxw d1
                        have d2 := Ext.cell_some hxw d2
                        clear hj
                        go_simp
                        try go_bits
                        first | rfl | (rw [if_pos (by omega), if_pos (by omega)]; go_simp; rfl) | (rw [if_pos (by omega)]; go_simp; rfl) | skip
                      · have d0 := Ext.cell_some hxw d0
                        have d1 := Ext.cell_some hxw d1
                        have d2 := Ext.cell_some hxw d2
                        clear hj
                        go_simp
                        try go_bits
                        first | rfl | (rw [if_pos (by omega), if_pos (by omega)]; go_simp; rfl) | (rw [if_pos (by omega)]; go_simp; rfl) | skip
                      · have d0 := Ext.cell_some hxw d0
                        have d1 := Ext.cell_some hxw d1
                        have d2 := Ext.cell_some hxw d2
                        clear hj
                        go_simp
                        try go_bits
                        first | rfl | (rw [if_pos (by omega), if_pos (by omega)]; go_simp; rfl) | (rw [if_pos (by omega)]; go_simp; rfl) | skip
                      · have d0 := Ext.cell_some hxw d0
                        have d1 := Ext.cell_some hxw d1
                        have d2 := Ext.cell_some hxw d2
                        clear hj
                        go_simp
                        try go_bits
                        first | rfl | (rw [if_pos (by omega), if_pos (by omega)]; go_simp; rfl) | (rw [if_pos (by omega)]; go_simp; rfl) | skip
                      · have d0 := Ext.cell_some hxw d0
                        have d1 := Ext.cell_some hxw d1
                        have d2 := Ext.cell_some hxw d2
                        clear hj
                        go_simp
                        try go_bits
                        first | rfl | (rw [if_pos (by omega), if_pos (by omega)]; go_simp; rfl) | (rw [if_pos (by omega)]; go_simp; rfl) | skip
                      · have d0 := Ext.cell_some hxw d0
                        have d1 := Ext.cell_some hxw d1
                        have d2 := Ext.cell_some hxw d2
                        clear hj
                        go_simp
                        try go_bits
                        first | rfl | (rw [if_pos (by omega), if_pos (by omega)]; go_simp; rfl) | (rw [if_pos (by omega)]; go_simp; rfl) | skip
                      · have d0 := Ext.cell_some hxw d0
                        have d1 := Ext.cell_some hxw d1
                        have d2 := Ext.cell_some hxw d2
                        clear hj
                        go_simp
                        try go_bits
                        first | rfl | (rw [if_pos (by omega), if_pos (by omega)]; go_simp; rfl) | (rw [if_pos (by omega)]; go_simp; rfl) | skip
                      · have d0 := Ext.cell_some hxw d0
                        have d1 := Ext.cell_some hxw d1
                        have d2 := Ext.cell_some hxw d2
                        clear hj
                        go_simp
                        try go_bits
                        first | rfl | (rw [if_pos (by omega), if_pos (by omega)]; go_simp; rfl) | (rw [if_pos (by omega)]; go_simp; rfl) | skip
                      · have d0 := Ext.cell_some hxw d0
                        have d1 := Ext.cell_some hxw d1
                        have d2 := Ext.cell_some hxw d2
                        clear hj
                        go_simp
                        try go_bits
                        first | rfl | (rw [if_pos (by omega), if_pos (by omega)]; go_simp; rfl) | (rw [if_pos (by omega)]; go_simp; rfl) | skip
                      · have d0 := Ext.cell_some hxw d0
                        have d1 := Ext.cell_some hxw d1
                        have d2 := Ext.cell_some hxw d2
                        clear hj
                        go_simp
                        try go_bits
                        first | rfl | (rw [if_pos (by omega), if_pos (by omega)]; go_simp; rfl) | (rw [if_pos (by omega)]; go_simp; rfl) | skip
                      · have d0 := Ext.cell_some hxw d0
                        have d1 := Ext.cell_some hxw d1
                        have d2 := Ext.cell_some hxw d2
                        clear hj
                        go_simp
                        try go_bits
                        first | rfl | (rw [if_pos (by omega), if_pos (by omega)]; go_simp; rfl) | (rw [if_pos (by omega)]; go_simp; rfl) | skip
                      · have d0 := Ext.cell_some hxw d0
                        have d1 := Ext.cell_some hxw d1
                        have d2 := Ext.cell_some hxw d2
                        clear hj
                        go_simp
                        try go_bits
                        first | rfl | (rw [if_pos (by omega), if_pos (by omega)]; go_simp; rfl) | (rw [if_pos (by omega)]; go_simp; rfl) | skip
                    case' hx7_22_p =>
                      intro vs w7 hx7 hk
                      clear hk
                      replace d0 := Ext.cell_some hx7 d0
                      replace d1 := Ext.cell_some hx7 d1
                      replace d2 := Ext.cell_some hx7 d2
                      replace hrow := Own.ext hrow hx7
                      replace hxw := Ext.trans hxw hx7
                      go_simp
                      clear hx7
                      go_wp2
                      refine wp_region_tail (by kernel_rfl) 21 (.known ?hx8_23_v0 :: .known ?hx8_23_v1 :: .known ?hx8_23_v2 :: .known ?hx8_23_v3 :: .known ?hx8_23_v4 :: .known ?hx8_23_v5 :: .known ?hx8_23_v6 :: .known ?hx8_23_v7 :: .known ?hx8_23_v8 :: .known ?hx8_23_v9 :: .known ?hx8_23_v10 :: .known ?hx8_23_v11 :: .known ?hx8_23_v12 :: .known ?hx8_23_v13 :: .known ?hx8_23_v14 :: .known ?hx8_23_v15 :: .known ?hx8_23_v16 :: .known ?hx8_23_v17 :: .known ?hx8_23_v18 :: .known ?hx8_23_v19 :: .box ?hx8_23_v20 :: []) rfl (by decide) (by kernel_rfl) (by kernel_rfl) ?hx8_23_s ?hx8_23_p
                      case hx8_23_s =>
                        intro vs
                        refine ⟨fun w' hxw hj => ?_, fun w' hxw hj => ?_, fun w' hxw hj => ?_, fun w' hxw hj => ?_, fun w' hxw hj => ?_, fun w' hxw hj => ?_, fun w' hxw hj => ?_, fun w' hxw hj => ?_, fun w' hxw hj => ?_, fun w' hxw hj => ?_, fun w' hxw hj => ?_, fun w' hxw hj => ?_, fun w' hxw hj => ?_, fun w' hxw hj => ?_, fun w' hxw hj => ?_, fun w' hxw hj => ?_, fun w' hxw hj => ?_, fun w' hxw hj => ?_, fun w' hxw hj => ?_, fun w' hxw hj => ?_, fun w' hxw hj => ?_, trivial⟩
                        · have d0 := Ext.cell_some hxw d0
                          have d1 := Ext.cell_some hxw d1
                          have d2 := Ext.cell_some hxw d2
                          clear hj
                          go_simp
                          try go_bits
                          first | rfl | (rw [if_pos (by omega), if_pos (by omega)]; go_simp; rfl) | (rw [if_pos (by omega)]; go_simp; rfl) | skip
                        · have d0 := Ext.cell_some hxw d0
                          have d1 := Ext.cell_some hxw d1
                          have d2 := Ext.cell_some hxw d2
                          clear hj
                          go_simp
                          try go_bits
                          first | rfl | (rw [if_pos (by omega), if_pos (by omega)]; go_simp; rfl) | (rw [if_pos (by omega)]; go_simp; rfl) | skip
                        · have d0 := Ext.cell_some hxw d0
                          have d1 := Ext.cell_some hxw d1
                          have d2 := Ext.cell_some hxw d2
                          clear hj
                          go_simp
                          try go_bits
                          first | rfl | (rw [if_pos (by omega), if_pos (by omega)]; go_simp; rfl) | (rw [if_pos (by omega)]; go_simp; rfl) | skip
                        · have d0 := Ext.cell_some hxw d0
                          have d1 := Ext.cell_some hxw d1
                          have d2 := Ext.cell_some hxw d2
                          clear hj
                          go_simp
                          try go_bits
                          first | rfl | (rw [if_pos (by omega), if_pos (by omega)]; go_simp; rfl) | (rw [if_pos (by omega)]; go_simp; rfl) | skip
                        · have d0 := Ext.cell_some hxw d0
                          have d1 := Ext.cell_some hxw d1
                          have d2 := Ext.cell_some hxw d2
                          clear hj
                          go_simp
                          try go_bits
                          first | rfl | (rw [if_pos (by omega), if_pos (by omega)]; go_simp; rfl) | (rw [if_pos (by omega)]; go_simp; rfl) | skip
                        · have d0 := Ext.cell_some hxw d0
                          have d1 := Ext.cell_some hxw d1
                          have d2 := Ext.cell_some hxw d2
                          clear hj
                          go_simp
                          try go_bits
                          first | rfl | (rw [if_pos (by omega), if_pos (by omega)]; go_simp; rfl) | (rw [if_pos (by omega)]; go_simp; rfl) | skip
                        · have d0 := Ext.cell_some hxw d0
                          have d1 := Ext.cell_some hxw d1
                          have d2 := Ext.cell_some hxw d2
                          clear hj
                          go_simp
                          try go_bits
                          first | rfl | (rw [if_pos (by omega), if_pos (by omega)]; go_simp; rfl) | (rw [if_pos (by omega)]; go_simp; rfl) | skip
                        · have d0 := Ext.cell_some hxw d0
                          have d1 := Ext.cell_some hxw d1
                          have d2 := Ext.cell_some hxw d2
                          clear hj
                          go_simp
                          try go_bits
                          first | rfl | (rw [if_pos (by omega), if_pos (by omega)]; go_simp; rfl) | (rw [if_pos (by omega)]; go_simp; rfl) | skip
                        · have d0 := Ext.cell_some hxw d0
                          have d1 := Ext.cell_some hxw d1
                          have d2 := Ext.cell_some hxw d2
                          clear hj
                          go_simp
                          try go_bits
                          first | rfl | (rw [if_pos (by omega), if_pos (by omega)]; go_simp; rfl) | (rw [if_pos (by omega)]; go_simp; rfl) | skip
                        · have d0 := Ext.cell_some hxw d0
                          have d1 := Ext.cell_some hxw d1
                          have d2 := Ext.cell_some hxw d2
                          clear hj
                          go_simp
                          try go_bits
                          first | rfl | (rw [if_pos (by omega), if_pos (by omega)]; go_simp; rfl) | (rw [if_pos (by omega)]; go_simp; rfl) | skip
                        · have d0 := Ext.cell_some hxw d0
                          have d1 := Ext.cell_some hxw d1
                          have d2 := Ext.cell_some hxw d2
                          clear hj
                          go_simp
                          try go_bits
                          first | rfl | (rw [if_pos (by omega), if_pos (by omega)]; go_simp; rfl) | (rw [if_pos (by omega)]; go_simp; rfl) | skip
                        · have d0 := Ext.cell_some hxw d0
                          have d1 := Ext.cell_some hxw d1
                          have d2 := Ext.cell_some hxw d2
                          clear hj
                          go_simp
                          try go_bits
                          first | rfl | (rw [if_pos (by omega), if_pos (by omega)]; go_simp; rfl) | (rw [if_pos (by omega)]; go_simp; rfl) | skip
                        · have d0 := Ext.cell_some hxw d0
                          have d1 := Ext.cell_some hxw d1
                          have d2 := Ext.cell_some hxw d2
                          clear hj
                          go_simp
                          try go_bits
                          first | rfl | (rw [if_pos (by omega), if_pos (by omega)]; go_simp; rfl) | (rw [if_pos (by omega)]; go_simp; rfl) | skip
                        · have d0 := Ext.cell_some hxw d0
                          have d1 := Ext.cell_some hxw d1
                          have d2 := Ext.cell_some hxw d2
                          clear hj
                          go_simp
                          try go_bits
                          first | rfl | (rw [if_pos (by omega), if_pos (by omega)]; go_simp; rfl) | (rw [if_pos (by omega)]; go_simp; rfl) | skip
                        · have d0 := Ext.cell_some hxw d0
                          have d1 := Ext.cell_some hxw d1
                          have d2 := Ext.cell_some hxw d2
                          clear hj
                          go_simp
                          try go_bits
                          first | rfl | (rw [if_pos (by omega), if_pos (by omega)]; go_simp; rfl) | (rw [if_pos (by omega)]; go_simp; rfl) | skip
                        · have d0 := Ext.cell_some hxw d0
                          have d1 := Ext.cell_some hxw d1
                          have d2 := Ext.cell_some hxw d2
                          clear hj
                          go_simp
                          try go_bits
                          first | rfl | (rw [if_pos (by omega), if_pos (by omega)]; go_simp; rfl) | (rw [if_pos (by omega)]; go_simp; rfl) | skip
                        · have d0 := Ext.cell_some hxw d0
                          have d1 := Ext.cell_some hxw d1
                          have d2 := Ext.cell_some hxw d2
                          clear hj
                          go_simp
                          try go_bits
                          first | rfl | (rw [if_pos (by omega), if_pos (by omega)]; go_simp; rfl) | (rw [if_pos (by omega)]; go_simp; rfl) | skip
                        · have d0 := Ext.cell_some hxw d0
                          have d1 := Ext.cell_some hxw d1
                          have d2 := Ext.cell_some hxw d2
                          clear hj
                          go_simp
                          try go_bits
                          first | rfl | (rw [if_pos (by omega), if_pos (by omega)]; go_simp; rfl) | (rw [if_pos (by omega)]; go_simp; rfl) | skip
                        · have d0 := Ext.cell_some hxw d0
                          have d1 := Ext.cell_some hxw d1
                          have d2 := Ext.cell_some hxw d2
                          clear hj
                          go_simp
                          try go_bits
                          first | rfl | (rw [if_pos (by omega), if_pos (by omega)]; go_simp; rfl) | (rw [if_pos (by omega)]; go_simp; rfl) | skip
                        · have d0 := Ext.cell_some hxw d0
                          have d1 := Ext.cell_some hxw d1
                          have d2 := Ext.cell_some hxw d2
                          clear hj
                          go_simp
                          try go_bits
                          first | rfl | (rw [if_pos (by omega), if_pos (by omega)]; go_simp; rfl) | (rw [if_pos (by omega)]; go_simp; rfl) | skip
                        · have d0 := Ext.cell_some hxw d0
                          have d1 := Ext.cell_some hxw d1
                          have d2 := Ext.cell_some hxw d2
                          clear hj
                          go_simp
                          try go_bits
                          exact boxOf_new _ _ _
                      case' hx8_23_p =>
                        intro vs w8 hx8 hk
                        have k20 : BoxOf _ (vs 20) w8 := hk 20 _ rfl
                        clear hk
                        replace d0 := Ext.cell_some hx8 d0
                        replace d1 := Ext.cell_some hx8 d1
                        replace d2 := Ext.cell_some hx8 d2
                        replace hrow := Own.ext hrow hx8
                        replace hxw := Ext.trans hxw hx8
                        go_simp
                        obtain ⟨bx, hbx, hcx⟩ := k20
                        rw [hbx]
                        clear hbx d0 d1 d2 hx8
                        go_wp2_with (at_builtin; refine wpList_append_one rfl (.tmp 59) (.tmp 79) 63 rfl 3 _ _ Try.underlying63 infoInt rfl w4.heap.size _ _ rfl hrow bx _ rfl hcx rfl hl1 hl2 w4 rfl hxw ?_; intro v' w9 hown9 hx9 hmv)
                        have hsl9 : ∃ g n c, v' = .slice (some ⟨g, 0, none⟩) n c := by
                          rcases hown9.shape with ⟨_, h⟩ | ⟨g', c', h, _⟩
                          · simp at h
                          · exact ⟨g', _, c', h⟩
                        go_roundw
                        case rel => exact ⟨y + 1, by omega, by go_num, by rw [HS.out, if_pos HCC.out]; simpa [ncells] using hown9, hsl9, hx9⟩
                        case measure => simp [intOf]; omega
                  · have hccn : ((o[q1].toNat : Int) == (o[q2].toNat : Int)) = false := by
                      have h : ¬ o[q1].toNat = o[q2].toNat := fun h => hcc (UInt8.toNat_inj.1 h)
                      simp; omega
                    have HCC := Lib.hid hcc
                    clear hcc
                    go_wp2
                    refine wp_region_inv (by kernel_rfl) (.known ?hx7_24_v0 :: .known ?hx7_24_v1 :: .known ?hx7_24_v2 :: .known ?hx7_24_v3 :: .known ?hx7_24_v4 :: .known ?hx7_24_v5 :: .known ?hx7_24_v6 :: .known ?hx7_24_v7 :: .known ?hx7_24_v8 :: .known ?hx7_24_v9 :: .known ?hx7_24_v10 :: .known ?hx7_24_v11 :: .known ?hx7_24_v12 :: .known ?hx7_24_v13 :: .known ?hx7_24_v14 :: .known ?hx7_24_v15 :: .known ?hx7_24_v16 :: .known ?hx7_24_v17 :: .known ?hx7_24_v18 :: []) rfl (by kernel_rfl) ?hx7_24_s ?hx7_24_p
                    case hx7_24_s =>
                      intro vs
                      refine ⟨fun w' hxw hj => ?_, fun w' hxw hj => ?_, fun w' hxw hj => ?_, fun w' hxw hj => ?_, fun w' hxw hj => ?_, fun w' hxw hj => ?_, fun w' hxw hj => ?_, fun w' hxw hj => ?_, fun w' hxw hj => ?_, fun w' hxw hj => ?_, fun w' hxw hj => ?_, fun w' hxw hj => ?_, fun w' hxw hj => ?_, fun w' hxw hj => ?_, fun w' hxw hj => ?_, fun w' hxw hj => ?_, fun w' hxw hj => ?_, fun w' hxw hj => ?_, fun w' hxw hj => ?_, trivial⟩
                      · have d0 := Ext.cell_some hxw d0
                        have d1 := Ext.cell_some hxw d1
                        have d2 := Ext.cell_some hxw d2
                        clear hj
                        go_simp
                        try go_bits
                        first | rfl | (rw [if_pos (by omega), if_pos (by omega)]; go_simp; rfl) | (rw [if_pos (by omega)]; go_simp; rfl) | skip
                      · have d0 := Ext.cell_some hxw d0
                        have d1 := Ext.cell_some hxw d1
                        have d2 := Ext.cell_some hxw d2
                        clear hj
                        go_simp
                        try go_bits
                        first | rfl | (rw [if_pos (by omega), if_pos (by omega)]; go_simp; rfl) | (rw [if_pos (by omega)]; go_simp; rfl) | skip
                      · have d0 := Ext.cell_some hxw d0
                        have d1 := Ext.cell_some hxw d1
                        have d2 := Ext.cell_some hxw d2
                        clear hj
                        go_simp
                        try go_bits
                        first | rfl | (rw [if_pos (by omega), if_pos (by omega)]; go_simp; rfl) | (rw [if_pos (by omega)]; go_simp; rfl) | skip
                      · have d0 := Ext.cell_some hxw d0
                        have d1 := Ext.cell_some hxw d1
                        have d2 := Ext.cell_some hxw d2
                        clear hj
                        go_simp
                        try go_bits
                        first | rfl | (rw [if_pos (by omega), if_pos (by omega)]; go_simp; rfl) | (rw [if_pos (by omega)]; go_simp; rfl) | skip
                      · have d0 := Ext.cell_some hxw d0
                        have d1 := Ext.cell_some hxw d1
                        have d2 := Ext.cell_some hxw d2
                        clear hj
                        go_simp
                        try go_bits
                        first | rfl | (rw [if_pos (by omega), if_pos (by omega)]; go_simp; rfl) | (rw [if_pos (by omega)]; go_simp; rfl) | skip
                      · have d0 := Ext.cell_some hxw d0
                        have d1 := Ext.cell_some hxw d1
                        have d2 := Ext.cell_some hxw d2
                        clear hj
                        go_simp
                        try go_bits
                        first | rfl | (rw [if_pos (by omega), if_pos (by omega)]; go_simp; rfl) | (rw [if_pos (by omega)]; go_simp; rfl) | skip
                      · have d0 := Ext.cell_some hxw d0
                        have d1 := Ext.cell_some hxw d1
                        have d2 := Ext.cell_some hxw d2
                        clear hj
                        go_simp
                        try go_bits
                        first | rfl | (rw [if_pos (by omega), if_pos (by omega)]; go_simp; rfl) | (rw [if_pos (by omega)]; go_simp; rfl) | skip
                      · have d0 := Ext.cell_some hxw d0
                        have d1 := Ext.cell_some hxw d1
                        have d2 := Ext.cell_some hxw d2
                        clear hj
                        go_simp
                        try go_bits
                        first | rfl | (rw [if_pos (by omega), if_pos (by omega)]; go_simp; rfl) | (rw [if_pos (by omega)]; go_simp; rfl) | skip
                      · have d0 := Ext.cell_some hxw d0
                        have d1 := Ext.cell_some hxw d1
                        have d2 := Ext.cell_some hxw d2
                        clear hj
                        go_simp
                        try go_bits
                        first | rfl | (rw [if_pos (by omega), if_pos (by omega)]; go_simp; rfl) | (rw [if_pos (by omega)]; go_simp; rfl) | skip
                      · have d0 := Ext.cell_some hxw d0
                        have d1 := Ext.cell_some hxw d1
                        have d2 := Ext.cell_some hxw d2
                        clear hj
                        go_simp
                        try go_bits
                        first | rfl | (rw [if_pos (by omega), if_pos (by omega)]; go_simp; rfl) | (rw [if_pos (by omega)]; go_simp; rfl) | skip
                      · have d0 := Ext.cell_some hxw d0
                        have d1 := Ext.cell_some hxw d1
                        have d2 := Ext.cell_some hxw d2
                        clear hj
                        go_simp
                        try go_bits
                        first | rfl | (rw [if_pos (by omega), if_pos (by omega)]; go_simp; rfl) | (rw [if_pos (by omega)]; go_simp; rfl) | skip
                      · have d0 := Ext.cell_some hxw d0
                        have d1 := Ext.cell_some hxw d1
                        have d2 := Ext.cell_some hxw d2
                        clear hj
                        go_simp
                        try go_bits
                        first | rfl | (rw [if_pos (by omega), if_pos (by omega)]; go_simp; rfl) | (rw [if_pos (by omega)]; go_simp; rfl) | skip
                      · have d0 := Ext.cell_some hxw d0
                        have d1 := Ext.cell_some hxw d1
                        have d2 := Ext.cell_some hxw d2
                        clear hj
                        go_simp
                        try go_bits
                        first | rfl | (rw [if_pos (by omega), if_pos (by omega)]; go_simp; rfl) | (rw [if_pos (by omega)]; go_simp; rfl) | skip
                      · have d0 := Ext.cell_some hxw d0
                        have d1 := Ext.cell_some hxw d1
                        have d2 := Ext.cell_some hxw d2
                        clear hj
                        go_simp
                        try go_bits
                        first | rfl | (rw [if_pos (by omega), if_pos (by omega)]; go_simp; rfl) | (rw [if_pos (by omega)]; go_simp; rfl) | skip
                      · have d0 := Ext.cell_some hxw d0
                        have d1 := Ext.cell_some hxw d1
                        have d2 := Ext.cell_some hxw d2
                        clear hj
                        go_simp
                        try go_bits
                        first | rfl | (rw [if_pos (by omega), if_pos (by omega)]; go_simp; rfl) | (rw [if_pos (by omega)]; go_simp; rfl) | skip
                      · have d0 := Ext.cell_some hxw d0
                        have d1 := Ext.cell_some hxw d1
                        have d2 := Ext.cell_some hxw d2
                        clear hj
                        go_simp
                        try go_bits
                        first | rfl | (rw [if_pos (by omega), if_pos (by omega)]; go_simp; rfl) | (rw [if_pos (by omega)]; go_simp; rfl) | skip
                      · have d0 := Ext.cell_some hxw d0
                        have d1 := Ext.cell_some hxw d1
                        have d2 := Ext.cell_some hxw d2
                        clear hj
                        go_simp
                        try go_bits
                        first | rfl | (rw [if_pos (by omega), if_pos (by omega)]; go_simp; rfl) | (rw [if_pos (by omega)]; go_simp; rfl) | skip
                      · have d0 := Ext.cell_some hxw d0
                        have d1 := Ext.cell_some hxw d1
                        have d2 := Ext.cell_some hxw d2
                        clear hj
                        go_simp
                        try go_bits
                        first | rfl | (rw [if_pos (by omega), if_pos (by omega)]; go_simp; rfl) | (rw [if_pos (by omega)]; go_simp; rfl) | skip
                      · have d0 := Ext.cell_some hxw d0
                        have d1 := Ext.cell_some hxw d1
                        have d2 := Ext.cell_some hxw d2
                        clear hj
                        go_simp
                        try go_bits
                        first | rfl | (rw [if_pos (by omega), if_pos (by omega)]; go_simp; rfl) | (rw [if_pos (by omega)]; go_simp; rfl) | skip
                    case' hx7_24_p =>
                      intro vs w7 hx7 hk
                      clear hk
                      replace d0 := Ext.cell_some hx7 d0
                      replace d1 := Ext.cell_some hx7 d1
                      replace d2 := Ext.cell_some hx7 d2
                      replace hrow := Own.ext hrow hx7
                      replace hxw := Ext.trans hxw hx7
                      go_simp
                      clear hx7 d0 d1 d2
                      go_wp2
                      go_roundw
                      case rel => exact ⟨y + 1, by omega, by go_num, by rw [HS.out, if_neg HCC.out, List.append_nil]; exact hrow, hsl, hxw⟩
                      case measure => simp [intOf]; omega
                · have hyK : y = K := by omega
                  subst hyK
                  rw [rowIn_all] at hrow
                  go_wp2
                  go_roundw
                  case rel => exact ⟨x + 1, by omega, by go_num, hrow, hsl, hxw⟩
                  case measure => simp [intOf]; omega
            · have hxK : x = K := by omega
              obtain ⟨rg, rn, rc, rfl⟩ := hsl
              have hTb := (hT.ext hxw).ext (Ext.alloc wr (.cells #[.slice (some ⟨rg, 0, none⟩) rn rc] 63))
              have hrowb := (hrow.ext (Ext.alloc wr (.cells #[.slice (some ⟨rg, 0, none⟩) rn rc] 63))).mono (B' := w1.heap.size) (Ext.size hxr)
              have hne : ∀ k, (Value.slice (some ⟨rg, 0, none⟩) rn rc).ownBlock = some k → u4.ownBlock ≠ some k := by
                intro k hk hk2
                have h1 := (World.ownsRow.lt hrow k hk).1
                have h2 := (World.ownsRow.lt hT.own k hk2).2
                omega
              have hxb := (hxr.trans hxw).trans (Ext.alloc wr (.cells #[.slice (some ⟨rg, 0, none⟩) rn rc] 63))
              have hcx : (wr.alloc (.cells #[.slice (some ⟨rg, 0, none⟩) rn rc] 63)).cell? ⟨wr.heap.size, 0, none⟩ = some (.slice (some ⟨rg, 0, none⟩) rn rc) := by simp
              have hpair := pair_lt hltU hltV
              have hNN : N * N ≤ 9 * 9 := Nat.mul_le_mul hN9 hN9
              have hfl : fs.length ≤ 81 := by
                rw [hT.len]
                simp
                omega
              have hl1 : fs.length + 1 ≤ maxLen := by unfold maxLen; omega
              have hl2 : (fs.length + 1) * 24 ≤ 140737488355328 := by omega
              have HT := Lib.hid (And.intro hTb (And.intro hrowb hne))
              have hownb := hTb.own
              have HPP := Lib.hid hpair
              clear hTb hrowb hne hfl hrow hxw hpair hNN
              go_wp2_with (at_builtin; refine wpList_append_one rfl (.tmp 81) (.tmp 83) 75 rfl 63 _ _ Try.underlying75 infoRow rfl w1.heap.size _ _ rfl hownb wr.heap.size _ rfl hcx rfl hl1 hl2 w1 rfl hxb ?_; intro v' w9 hown9 hx9 hmv)
              have hT9 := Tab.push HT.out.1 HT.out.2.1 ⟨rg, rn, rc, rfl⟩ HT.out.2.2 hown9 hmv
              have e9 : ((stepsL K N o).take (U * N + V)).map ncells ++ [ncells (rowTo K N o U V x)] = ((stepsL K N o).take (U * N + (V + 1))).map ncells := by
                rw [← Nat.add_assoc, stepsL_take K N o _ HPP.out, List.map_append, hxK, div_pair hltV, mod_pair hltV]
                rfl
              rw [e9] at hT9
              clear e9
              go_roundw
              case rel => exact ⟨V + 1, _, by omega, by go_num, hT9, hx9⟩
              case measure => simp [intOf]; omega
        · have hVN : V = N := by omega
          have hT9 : Tab wr w1.heap.size 63 3 u4 fs (((stepsL K N o).take ((U + 1) * N)).map ncells) := by
            rw [Nat.succ_mul, ← hVN]
            rw [hVN] at hT ⊢
            exact hT
          clear hT
          subst hVN
          go_wp2
          go_roundw
          case rel => exact ⟨U + 1, fs, by omega, by go_num, hT9, hxr⟩
          case measure => simp [intOf]; omega
    · have hUN : U = N := by omega
      have eall : (stepsL K N o).take (U * N) = stepsL K N o := List.take_of_length_le (by rw [stepsL_length, hUN]; exact Nat.le_refl _)
      rw [eall] at hT
      have hsh := hT.own.shape
      have hfl : fs.length = N * N := by rw [hT.len]; simp [stepsL_length]
      rw [hfl] at hsh
      rcases hsh with ⟨_, hnil⟩ | ⟨g, cap, rfl, hg, _, _, _⟩
      · exfalso
        rw [hnil] at hfl
        have : 0 < N * N := Nat.mul_pos hN1 hN1
        simp at hfl
        omega
      obtain ⟨M, hM⟩ : ∃ M, M = N * N := ⟨_, rfl⟩
      rw [← hM] at hT ⊢
      have HMM := Lib.hid hM
      clear hM hfl eall
      go_wp2
      go_ret
      exact ⟨g, M, cap, _, fs, HMM.out, rfl, hT, hx.trans hxr⟩
end Go.Proofs.Ytfkdpeifnfpldaa

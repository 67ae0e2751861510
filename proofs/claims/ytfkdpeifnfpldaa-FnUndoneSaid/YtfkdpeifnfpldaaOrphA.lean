/- Contract: the reference's step of a set of ends. -/
import Derived.Test.YtfkdpeifnfpldaaPkC
import Derived.Test.YtfkdpeifnfpldaaPkM
namespace Go.Proofs.Ytfkdpeifnfpldaa
open Go.RowKit Go.Cm

set_option maxRecDepth 100000 in
set_option maxHeartbeats 4000000 in
theorem spec_l12Step_any (K n m N S : Nat) (c : UInt8) (o : ByteArray) (w : World) (hf : CodeFit K n o) (hn : n = m + 1) (hN : N = K ^ m) (hS : S < 2 ^ N) :
    Calls Try.prog 81 #[.agg #[.int .i64 K, .int .i64 n, .string o], .int .i64 S, .int .u8 (c.toNat : Int)] w fun e w' => e = .returned (.int .i64 (nextS K N o S c : Nat)) ∧ Ext w w' := by
  have hk2 := hf.k2
  have hk3 := hf.k3
  have hn4 := hf.n4
  have hNK : N * K ≤ 27 := by have := hf.le; rwa [hn, Nat.pow_succ, ← hN] at this
  have hos : o.size = N * K := by rw [hf.size, hn, Nat.pow_succ, hN]
  have hN1 : 0 < N := by rw [hN]; exact Nat.pow_pos (by omega)
  have hN9 : N ≤ 9 := by
    by_cases h2 : K = 2
    · have h1 : 2 ^ m ≤ 2 ^ 3 := Nat.pow_le_pow_right (by omega) (by omega)
      rw [hN, h2]
      omega
    · have h3 : K = 3 := by omega
      rw [h3] at hNK
      omega
  have hNne : ¬ N = 0 := by omega
  have h512 : 2 ^ N ≤ 512 := by
    have h1 : 2 ^ N ≤ 2 ^ 9 := Nat.pow_le_pow_right (by omega) hN9
    have h2 : (2 : Nat) ^ 9 = 512 := by decide
    omega
  have e1 : (n : Int) - 1 = m := by omega
  have hpw : ∀ w, Calls Try.prog 61 #[.int .i64 K, .int .i64 m] w fun e w' => e = .returned (.int .i64 (N : Nat)) ∧ w = w' := by
    intro w
    have h := spec_l11Power_any (K : Int) (m : Int) w (by omega) (by omega) (by omega) (by omega)
    rw [pw_nat, ← hN] at h
    exact h
  have hS512 : S < 512 := by omega
  have HP := Lib.hid (And.intro hpw (And.intro hos (And.intro hNK h512)))
  have ho27 : o.size ≤ 27 := by omega
  clear hpw hn hN hS hos h512 hNK
  go_enter Try.func81, Try.ntmps81
  go_wp2_with fail
  with_reducible refine (HP.out.1 _).mono ?_
  rintro e w1 ⟨rfl, rfl⟩
  have bo : Blk (w.alloc (.cells #[.int .i64 K, .int .i64 n, .string o] 25)) w.heap.size #[.int .i64 K, .int .i64 n, .string o] := by (repeat (first | (refine Blk.mk' ?_; (simp; done)) | apply Blk.old))
  obtain ⟨c0, c1, c2, -, -, -⟩ := bo.c3
  go_wp2
  go_loop [8, 9] (fun t i => ∃ v : Nat, v ≤ N ∧ i = .int .i64 v ∧ t = .int .i64 (allB K N o S c v : Nat)) (fun _ i => N - (intOf i).toNat)
  case atStart => exact ⟨0, by omega, rfl, rfl⟩
  case round =>
    obtain ⟨v, hv, rfl, rfl⟩ := hrel
    by_cases hltv : v < N
    · obtain ⟨va, hva⟩ : ∃ va, va = v * K := ⟨_, rfl⟩
      have hvai : (v : Int) * (K : Int) = (va : Int) := by rw [hva]; simp
      have hvab : va + K ≤ N * K := by rw [hva, ← Nat.succ_mul]; exact Nat.mul_le_mul_right _ hltv
      rw [← HP.out.2.1] at hvab
      have HV := Lib.hid hva
      clear hva
      have hon := bit_on S v (by omega)
      have hTN := allB_lt (K := K) hN1 o S c v
      have hsucc := allB_succ K N o S c v
      obtain ⟨T0, hT0⟩ : ∃ T0, T0 = allB K N o S c v := ⟨_, rfl⟩
      rw [← hT0] at hTN hsucc ⊢
      have HT := Lib.hid (And.intro hTN hsucc)
      clear hTN hsucc hT0
      cases hbit : S.testBit v with
      | false =>
        rw [hbit] at hon
        have HB := Lib.hid (rowB_off (K := K) (N := N) (o := o) (c := c) (T := T0) hbit K)
        clear hbit
        go_wp2
        go_loop [8, 10] (fun t i => i = .int .i64 0 ∧ t = .int .i64 T0) (fun _ _ => 0)
        case atStart => exact ⟨rfl, rfl⟩
        case round =>
          obtain ⟨rfl, rfl⟩ := hrel
          go_wp2
          go_round
          case rel => exact ⟨v + 1, by omega, by go_num, by rw [HT.out.2, HB.out]⟩
          case measure => simp [intOf]; omega
      | true =>
        rw [hbit] at hon
        have HB := Lib.hid hbit
        clear hbit
        go_wp2
        go_loop [8, 10] (fun t i => ∃ x : Nat, x ≤ K ∧ i = .int .i64 x ∧ t = .int .i64 (rowB K N o S c v T0 x : Nat)) (fun _ i => K - (intOf i).toNat)
        case atStart => exact ⟨0, by omega, rfl, rfl⟩
        case round =>
          obtain ⟨x, hx, rfl, rfl⟩ := hrel
          by_cases hltx : x < K
          · obtain ⟨q, hq⟩ : ∃ q, q = va + x := ⟨_, rfl⟩
            have hqi : (va : Int) + (x : Int) = (q : Int) := by omega
            have hqo : q < o.size := by omega
            have hTN := rowB_lt (K := K) hN1 (o := o) (S := S) (c := c) (v := v) HT.out.1 x
            have hsucc := rowB_succ K N o S c v T0 x
            obtain ⟨T, hT⟩ : ∃ T, T = rowB K N o S c v T0 x := ⟨_, rfl⟩
            rw [← hT] at hTN hsucc ⊢
            have hT512 : T < 512 := by have := HP.out.2.2.2; omega
            obtain ⟨j, hj⟩ : ∃ j, j = q % N := ⟨_, rfl⟩
            have hji : (q : Int) % (N : Int) = (j : Int) := by rw [hj]; simp
            have hjN : j < N := by rw [hj]; exact Nat.mod_lt _ hN1
            have hp512 : 2 ^ j ≤ 512 := by
              have h1 : 2 ^ j ≤ 2 ^ 9 := Nat.pow_le_pow_right (by omega) (by omega)
              have h2 : (2 : Nat) ^ 9 = 512 := by decide
              omega
            have hpi := pow_int j
            have hor := (i64_bits T (2 ^ j) (by omega) (by omega)).2
            have hadd : addS K N o S c v T x = if o[q] = c then T ||| 2 ^ j else T := by
              unfold addS
              have e1 : o.data.toList.getD q 0 = o[q] := by rw [List.getD_eq_getElem?_getD, List.getElem?_eq_getElem (by simpa using hqo)]; rfl
              rw [← HV.out, ← hq, e1, HB.out, hj]
              simp
            obtain ⟨p2, hp2⟩ : ∃ p2, p2 = 2 ^ j := ⟨_, rfl⟩
            rw [← hp2] at hp512 hpi hor hadd
            rw [hadd] at hsucc
            obtain ⟨T2, hT2⟩ : ∃ T2, T2 = T ||| p2 := ⟨_, rfl⟩
            rw [← hT2] at hor hsucc
            have HS := Lib.hid hsucc
            clear hq hTN hsucc hT hj hadd hp2 hT2
            by_cases hcc : o[q] = c
            · have hccn : ((o[q].toNat : Int) == (c.toNat : Int)) = true := by simp [hcc]
              have HCC := Lib.hid hcc
              clear hcc
              go_wp2
              go_round
              case rel => exact ⟨x + 1, by omega, by go_num, by rw [HS.out, if_pos HCC.out]⟩
              case measure => simp [intOf]; omega
            · have hccn : ((o[q].toNat : Int) == (c.toNat : Int)) = false := by
                have h : ¬ o[q].toNat = c.toNat := fun h => hcc (UInt8.toNat_inj.1 h)
                simp; omega
              have HCC := Lib.hid hcc
              clear hcc
              go_wp2
              go_round
              case rel => exact ⟨x + 1, by omega, by go_num, by rw [HS.out, if_neg HCC.out]⟩
              case measure => simp [intOf]; omega
          · have hxK : x = K := by omega
            subst hxK
            go_wp2
            go_round
            case rel => exact ⟨v + 1, by omega, by go_num, by rw [HT.out.2]⟩
            case measure => simp [intOf]; omega
    · have hvN : v = N := by omega
      subst hvN
      go_wp2
      go_ret
      exact ⟨rfl, Ext.alloc _ _⟩
end Go.Proofs.Ytfkdpeifnfpldaa

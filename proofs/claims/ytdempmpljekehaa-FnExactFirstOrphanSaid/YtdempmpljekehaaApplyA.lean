/- Contracts: the index of a word, the letter that a code gives, a code on a word: the program's. -/
import Derived.Test.YtdempmpljekehaaCodeB
import Derived.Test.YtdempmpljekehaaWordA
import Derived.Test.YtdempmpljekehaaApplyMath
namespace Go.Proofs.Ytdempmpljekehaa
open Go.RowKit Go.Cm

theorem impl_isLetters_any (k : Int) (w : World) :
    Calls Try.prog 120 #[.int .i64 k] w fun e w' => e = .returned (.bool (decide (1 ≤ k) && decide (k ≤ 3))) ∧ w = w' := by
  by_cases h : 1 ≤ k
  · go_enter Try.func120, Try.ntmps120
    go_wp2
    go_ret
    exact ⟨ret_bool (by simp [h]), rfl⟩
  · have h' : k < 1 := by omega
    go_enter Try.func120, Try.ntmps120
    go_wp2
    go_ret
    exact ⟨ret_bool (by simp; omega), rfl⟩

set_option maxHeartbeats 400000 in
theorem impl_IsWord_any (k : Int) (s : ByteArray) (w : World) (hs : s.size ≤ maxLen) :
    Calls Try.prog 96 #[.int .i64 k, .string s] w fun e w' => e = .returned (.bool (wordOk k s)) ∧ w = w' := by
  have hs' : s.size ≤ maxLen := hs
  unfold maxLen at hs
  by_cases h1 : 1 ≤ k ∧ k ≤ 3
  · obtain ⟨h1, h3⟩ := h1
    by_cases h2 : s.size ≤ 16
    · go_enter Try.func96, Try.ntmps96
      go_wp2_with (first | (go_at_call 120; refine (impl_isLetters_any _ _).mono ?_; rintro e w' ⟨rfl, rfl⟩) | (go_at_call 74; refine (impl_areLetters_any _ _ _ hs').mono ?_; rintro e w' ⟨rfl, rfl⟩))
      go_ret
      exact ⟨ret_bool (by simp [wordOk, h1, h3, h2]), rfl⟩
    · go_enter Try.func96, Try.ntmps96
      go_wp2_with (first | (go_at_call 120; refine (impl_isLetters_any _ _).mono ?_; rintro e w' ⟨rfl, rfl⟩))
      go_ret
      exact ⟨ret_bool (by simp [wordOk]; omega), rfl⟩
  · have hb : (decide (1 ≤ k) && decide (k ≤ 3)) = false := by simp; omega
    have HB := Lib.hid h1
    clear h1
    go_enter Try.func96, Try.ntmps96
    go_wp2_with (first | (go_at_call 120; refine (impl_isLetters_any _ _).mono ?_; rintro e w' ⟨rfl, rfl⟩; rw [hb]))
    go_ret
    exact ⟨ret_bool (by have := HB.out; simp [wordOk]; omega), rfl⟩

set_option maxHeartbeats 400000 in
theorem impl_indexOf_any (K : Nat) (s : ByteArray) (w : World) (hK0 : 0 < K) (hK : K ≤ 3) (hs : s.size ≤ 16) (ha : areLet K s.data.toList = true) :
    Calls Try.prog 112 #[.int .i64 K, .string s] w fun e w' => e = .returned (.int .i64 (idxL K s.data.toList)) ∧ w = w' := by
  have HA := Lib.hid ha
  clear ha
  go_enter Try.func112, Try.ntmps112
  go_wp2
  go_loop [5, 6, 9] (fun x _ i => ∃ k : Nat, k ≤ s.size ∧ i = .int .i64 k ∧ x = .int .i64 (idxL K (s.data.toList.take k))) (fun _ _ i => s.size - (intOf i).toNat)
  case atStart => exact ⟨0, by omega, rfl, by simp [idxL]⟩
  case round =>
    obtain ⟨k, hk, rfl, rfl⟩ := hrel
    by_cases hlt : k < s.size
    · have hb := s[k].toNat_lt
      have hlet : isLet K s[k] = true := by
        have h1 := HA.out
        unfold areLet at h1
        rw [List.all_eq_true] at h1
        refine h1 _ ?_
        have : s.data.toList[k]'(by simpa using hlt) = s[k] := rfl
        rw [← this]; exact List.getElem_mem _
      simp only [isLet, Bool.and_eq_true, decide_eq_true_eq] at hlet
      obtain ⟨hl1, hl2⟩ := hlet
      have hi : idxL K (s.data.toList.take k) < 43046721 := by
        have h1 := idxL_lt K (s.data.toList.take k) (by
          have h1 := HA.out
          unfold areLet at *
          rw [List.all_eq_true] at *
          intro c hc
          exact h1 c (List.mem_of_mem_take hc))
        have h2 : (s.data.toList.take k).length ≤ 16 := by simp; omega
        have h3 : K ^ (s.data.toList.take k).length ≤ 3 ^ 16 := Nat.le_trans (Nat.pow_le_pow_left hK _) (Nat.pow_le_pow_right (by omega) h2)
        have h4 : (3 : Nat) ^ 16 = 43046721 := by decide
        omega
      have hs1 := take_snoc s k hlt
      obtain ⟨x, hx⟩ : ∃ x, x = idxL K (s.data.toList.take k) := ⟨_, rfl⟩
      have hx2 : idxL K (s.data.toList.take (k + 1)) = x * K + (s[k].toNat - 97) := by rw [hs1, idxL_snoc, hx]
      rw [← hx] at hi ⊢
      have HX := Lib.hid hx2
      have hm0 : (0 : Int) ≤ (x : Int) * (K : Int) := Int.mul_nonneg (by omega) (by omega)
      have hm1 : (x : Int) * (K : Int) ≤ 129140163 := by
        have : x * K ≤ 43046721 * 3 := Nat.mul_le_mul (by omega) hK
        have h2 : ((x * K : Nat) : Int) ≤ 129140163 := by omega
        simpa using h2
      clear hs1 hx hx2
      go_wp2
      go_round
      case rel => exact ⟨k + 1, by omega, by go_num, by rw [HX.out]; first | (congr 1; simp; omega) | go_num⟩
      case measure => simp [intOf]; omega
    · have : k = s.size := by omega
      subst this
      have ht := take_all s
      rw [ht]
      clear ht
      go_wp2
      go_ret
      exact ⟨rfl, rfl⟩
end Go.Proofs.Ytdempmpljekehaa

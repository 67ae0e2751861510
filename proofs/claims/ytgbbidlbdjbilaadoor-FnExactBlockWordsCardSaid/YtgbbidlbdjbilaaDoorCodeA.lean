/- Contracts: powers, letters, what a code is. -/
import Derived.Test.YtgbbidlbdjbilaaDoorLawCode
import Derived.Test.YtgbbidlbdjbilaaDoorL1In
import Derived.Test.YtgbbidlbdjbilaaDoorCodeMath
import Derived.BigQuiet
namespace Go.Proofs.YtgbbidlbdjbilaaDoor
open Go.RowKit Go.Cm

set_option maxHeartbeats 400000 in
theorem impl_power_any (k n : Int) (w : World) (h0 : 0 ≤ k) (h3 : k ≤ 3) (hn : 0 ≤ n) (h16 : n ≤ 16) :
    Calls Tryd.prog 46 #[.int .i64 k, .int .i64 n] w fun e w' => e = .returned (.int .i64 (pw k n)) ∧ w = w' := by
  obtain ⟨m, rfl⟩ := Int.eq_ofNat_of_zero_le hn
  go_enter Tryd.func46, Tryd.ntmps46
  go_wp2
  go_loop [5, 7] (fun p i => ∃ j : Nat, j ≤ m ∧ i = .int .i64 j ∧ p = .int .i64 (pw k j)) (fun _ i => m - (intOf i).toNat)
  case atStart => exact ⟨0, by omega, rfl, by rw [show ((0 : Nat) : Int) = 0 from rfl, pw_zero]⟩
  case round =>
    obtain ⟨j, hj, rfl, rfl⟩ := hrel
    by_cases hlt : j < m
    · have b1 := pw_bd h0 h3 (n := (j : Int)) (by omega) (by omega)
      have b2 := pw_bd h0 h3 (n := ((j + 1 : Nat) : Int)) (by omega) (by omega)
      have e : ((j + 1 : Nat) : Int) = (j : Int) + 1 := by omega
      rw [e, pw_succ] at b2
      obtain ⟨b1l, b1h⟩ := b1
      obtain ⟨b2l, b2h⟩ := b2
      clear e
      go_wp2
      go_round
      case rel => exact ⟨j + 1, by omega, by go_num, by rw [show ((j + 1 : Nat) : Int) = (j : Int) + 1 by omega, pw_succ]⟩
      case measure => simp [intOf]; omega
    · go_wp2
      go_ret
      have : j = m := by omega
      subst this
      exact ⟨rfl, rfl⟩

set_option maxHeartbeats 400000 in
theorem impl_areLetters_any (K : Int) (s : ByteArray) (w : World) (hs : s.size ≤ maxLen) :
    Calls Tryd.prog 30 #[.int .i64 K, .string s] w fun e w' => e = .returned (.bool (areLet K s.data.toList)) ∧ w = w' := by
  unfold maxLen at hs
  go_enter Tryd.func30, Tryd.ntmps30
  go_wp2
  go_loop [5, 8] (fun _ i => ∃ k : Nat, k ≤ s.size ∧ i = .int .i64 k ∧ areLet K (s.data.toList.take k) = true) (fun _ i => s.size - (intOf i).toNat)
  case atStart => exact ⟨0, by omega, rfl, by simp [areLet]⟩
  case round =>
    obtain ⟨k, hk, rfl, hp⟩ := hrel
    have HP := Lib.hid hp
    clear hp
    by_cases hlt : k < s.size
    · have hb := s[k].toNat_lt
      go_wp2
      · go_ret
        exact ⟨ret_bool (areLet_bad hlt (by omega)).symm, rfl⟩
      · go_round
        case rel => exact ⟨k + 1, by omega, by go_num, areLet_snoc hlt HP.out (by omega) (by omega)⟩
        case measure => simp [intOf]; omega
      · go_ret
        exact ⟨ret_bool (areLet_bad hlt (by omega)).symm, rfl⟩
    · have : k = s.size := by omega
      subst this
      go_wp2
      go_ret
      exact ⟨ret_bool (areLet_all HP.out).symm, rfl⟩

theorem codeOk_letters {L W : Int} {s : ByteArray} (h2 : ¬ L = 2) (h3 : ¬ L = 3) : codeOk L W s = false := by simp [codeOk, h2, h3]
theorem codeOk_low {L W : Int} {s : ByteArray} (h : ¬ 1 ≤ W) : codeOk L W s = false := by simp [codeOk, h]
theorem codeOk_high {L W : Int} {s : ByteArray} (h : ¬ W ≤ 4) : codeOk L W s = false := by simp [codeOk, h]
theorem codeOk_width {L W : Int} {s : ByteArray} (h : ¬ (1 ≤ W ∧ W ≤ 4)) : codeOk L W s = false := by
  by_cases h1 : 1 ≤ W
  · exact codeOk_high (fun h4 => h ⟨h1, h4⟩)
  · exact codeOk_low h1
theorem codeOk_great {L W : Int} {s : ByteArray} (h : ¬ pw L W ≤ 27) : codeOk L W s = false := by simp [codeOk, h]
theorem codeOk_size {L W : Int} {s : ByteArray} (h : ¬ (s.size : Int) = pw L W) : codeOk L W s = false := by simp [codeOk, h]
theorem codeOk_rest {L W : Int} {s : ByteArray} (h : L = 2 ∨ L = 3) (h1 : 1 ≤ W) (h2 : W ≤ 4) (h3 : pw L W ≤ 27) (h4 : (s.size : Int) = pw L W) : codeOk L W s = areLet L s.data.toList := by
  unfold codeOk
  rw [decide_eq_true h1, decide_eq_true h2, decide_eq_true h3, decide_eq_true h4]
  rcases h with h | h <;> simp [h]

end Go.Proofs.YtgbbidlbdjbilaaDoor

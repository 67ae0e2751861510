/- Contracts: powers, letters, what a code is. -/
import Derived.Test.YtgaeeibcfoppbaaDoorLawCode
import Derived.Test.YtgaeeibcfoppbaaDoorL1In
import Derived.Test.YtgaeeibcfoppbaaDoorCodeMath
import Derived.BigQuiet
namespace Go.Proofs.YtgaeeibcfoppbaaDoor
open Go.RowKit Go.Cm

set_option maxHeartbeats 400000 in
theorem impl_power_any (k n : Int) (w : World) (h0 : 0 ≤ k) (h3 : k ≤ 3) (hn : 0 ≤ n) (h16 : n ≤ 16) :
    Calls Tryd.prog 18 #[.int .i64 k, .int .i64 n] w fun e w' => e = .returned (.int .i64 (pw k n)) ∧ w = w' := by
  obtain ⟨m, rfl⟩ := Int.eq_ofNat_of_zero_le hn
  go_enter Tryd.func18, Tryd.ntmps18
  go_wp2
  go_loop [5, 7] (fun p i => ∃ j : Nat, j ≤ m ∧ i = .int .i64 j ∧ p = .int .i64 (pw k j)) (fun _ i => m - (intOf i).toNat)
  case atStart => exact ⟨0, by omega, rfl, by rw [show ((0 : Nat) : Int) = 0 from rfl, pw_zero]⟩
  case round =>
    obtain ⟨j, hj, rfl, rfl⟩ := hrel
    by_cases hlt : j < m
    · have b1 := pw_bd h0 h3 (n := (j : Int)) (by omega) (by omega)
      have b2 := pw_bd h0 h3 (n := ((j + 1 : Nat) : Int)) (by omega) (by omega)
      have e : ((j + 1 : Nat) : Int) = (j : Int) + 1 := by omega
      rw [e, pw_succ] at b2
      obtain ⟨b1l, b1h⟩ := b1
      obtain ⟨b2l, b2h⟩ := b2
      clear e
      go_wp2
      go_round
      case rel => exact ⟨j + 1, by omega, by go_num, by rw [show ((j + 1 : Nat) : Int) = (j : Int) + 1 by omega, pw_succ]⟩
      case measure => simp [intOf]; omega
    · go_wp2
      go_ret
      have : j = m := by omega
      subst this
      exact ⟨rfl, rfl⟩

set_option maxHeartbeats 400000 in
theorem spec_l11Power_any (k n : Int) (w : World) (h0 : 0 ≤ k) (h3 : k ≤ 3) (hn : 0 ≤ n) (h16 : n ≤ 16) :
    Calls Tryd.prog 15 #[.int .i64 k, .int .i64 n] w fun e w' => e = .returned (.int .i64 (pw k n)) ∧ w = w' := by
  obtain ⟨m, rfl⟩ := Int.eq_ofNat_of_zero_le hn
  go_enter Tryd.func15, Tryd.ntmps15
  go_wp2
  go_loop [5, 6] (fun p i => ∃ j : Nat, j ≤ m ∧ i = .int .i64 j ∧ p = .int .i64 (pw k j)) (fun _ i => m - (intOf i).toNat)
  case atStart => exact ⟨0, by omega, rfl, by rw [show ((0 : Nat) : Int) = 0 from rfl, pw_zero]⟩
  case round =>
    obtain ⟨j, hj, rfl, rfl⟩ := hrel
    by_cases hlt : j < m
    · have b1 := pw_bd h0 h3 (n := (j : Int)) (by omega) (by omega)
      have b2 := pw_bd h0 h3 (n := ((j + 1 : Nat) : Int)) (by omega) (by omega)
      have e : ((j + 1 : Nat) : Int) = (j : Int) + 1 := by omega
      rw [e, pw_succ] at b2
      obtain ⟨b1l, b1h⟩ := b1
      obtain ⟨b2l, b2h⟩ := b2
      clear e
      go_wp2
      go_round
      case rel => exact ⟨j + 1, by omega, by go_num, by rw [show ((j + 1 : Nat) : Int) = (j : Int) + 1 by omega, pw_succ]⟩
      case measure => simp [intOf]; omega
    · go_wp2
      go_ret
      have : j = m := by omega
      subst this
      exact ⟨rfl, rfl⟩

set_option maxHeartbeats 400000 in
theorem impl_areLetters_any (K : Int) (s : ByteArray) (w : World) (hs : s.size ≤ maxLen) :
    Calls Tryd.prog 19 #[.int .i64 K, .string s] w fun e w' => e = .returned (.bool (areLet K s.data.toList)) ∧ w = w' := by
  unfold maxLen at hs
  go_enter Tryd.func19, Tryd.ntmps19
  go_wp2
  go_loop [5, 8] (fun _ i => ∃ k : Nat, k ≤ s.size ∧ i = .int .i64 k ∧ areLet K (s.data.toList.take k) = true) (fun _ i => s.size - (intOf i).toNat)
  case atStart => exact ⟨0, by omega, rfl, by simp [areLet]⟩
  case round =>
    obtain ⟨k, hk, rfl, hp⟩ := hrel
    have HP := Lib.hid hp
    clear hp
    by_cases hlt : k < s.size
    · have hb := s[k].toNat_lt
      go_wp2
      · go_ret
        exact ⟨ret_bool (areLet_bad hlt (by omega)).symm, rfl⟩
      · go_round
        case rel => exact ⟨k + 1, by omega, by go_num, areLet_snoc hlt HP.out (by omega) (by omega)⟩
        case measure => simp [intOf]; omega
      · go_ret
        exact ⟨ret_bool (areLet_bad hlt (by omega)).symm, rfl⟩
    · have : k = s.size := by omega
      subst this
      go_wp2
      go_ret
      exact ⟨ret_bool (areLet_all HP.out).symm, rfl⟩

theorem codeOk_letters {L W : Int} {s : ByteArray} (h2 : ¬ L = 2) (h3 : ¬ L = 3) : codeOk L W s = false := by simp [codeOk, h2, h3]
theorem codeOk_low {L W : Int} {s : ByteArray} (h : ¬ 1 ≤ W) : codeOk L W s = false := by simp [codeOk, h]
theorem codeOk_high {L W : Int} {s : ByteArray} (h : ¬ W ≤ 4) : codeOk L W s = false := by simp [codeOk, h]
theorem codeOk_width {L W : Int} {s : ByteArray} (h : ¬ (1 ≤ W ∧ W ≤ 4)) : codeOk L W s = false := by
  by_cases h1 : 1 ≤ W
  · exact codeOk_high (fun h4 => h ⟨h1, h4⟩)
  · exact codeOk_low h1
theorem codeOk_great {L W : Int} {s : ByteArray} (h : ¬ pw L W ≤ 27) : codeOk L W s = false := by simp [codeOk, h]
theorem codeOk_size {L W : Int} {s : ByteArray} (h : ¬ (s.size : Int) = pw L W) : codeOk L W s = false := by simp [codeOk, h]
theorem codeOk_rest {L W : Int} {s : ByteArray} (h : L = 2 ∨ L = 3) (h1 : 1 ≤ W) (h2 : W ≤ 4) (h3 : pw L W ≤ 27) (h4 : (s.size : Int) = pw L W) : codeOk L W s = areLet L s.data.toList := by
  unfold codeOk
  rw [decide_eq_true h1, decide_eq_true h2, decide_eq_true h3, decide_eq_true h4]
  rcases h with h | h <;> simp [h]

set_option maxHeartbeats 2000000 in
theorem impl_IsCode_any (L W : Int) (s : ByteArray) (w : World) (hs : s.size ≤ maxLen) :
    Calls Tryd.prog 12 #[.agg #[.int .i64 L, .int .i64 W, .string s]] w fun e w' => e = .returned (.bool (codeOk L W s)) ∧ Ext w w' := by
  have hs' : s.size ≤ maxLen := hs
  unfold maxLen at hs
  by_cases h1 : L = 2 ∨ L = 3
  · have hl : 2 ≤ L ∧ L ≤ 3 := by omega
    obtain ⟨hl2, hl3⟩ := hl
    have t1 : ((L == 2) = true) ∨ ((L == 2) = false ∧ (L == 3) = true) := by rcases h1 with h | h <;> simp [h]
    have H1 := Lib.hid h1
    clear h1
    by_cases h2 : 1 ≤ W
    · have t2 : decide (1 ≤ W) = true := by simpa using h2
      by_cases h3 : W ≤ 4
      · have t3 : decide (W ≤ 4) = true := by simpa using h3
        by_cases h4 : pw L W ≤ 27
        · have t4 : decide (pw L W ≤ 27) = true := by simpa using h4
          by_cases h5 : (s.size : Int) = pw L W
          · have t5 : ((s.size : Int) == pw L W) = true := by simpa using h5
            have H5 := Lib.hid (codeOk_rest (s := s) H1.out h2 h3 h4 h5)
            clear h5
            rcases t1 with t1 | ⟨t1, t1'⟩
            all_goals
              go_enter Tryd.func12, Tryd.ntmps12
              go_wp2
              go_quiet (first | (go_at_call 18; exact Calls.quiet_is (impl_power_any _ _ _ (by omega) (by omega) (by omega) (by omega))) | (go_at_call 19; exact Calls.quiet_is (impl_areLetters_any _ _ _ hs')))
              go_wp2
              go_ret
              exact ⟨ret_bool H5.out.symm, (Ext.alloc _ _).drewN _⟩
          · have t5 : ((s.size : Int) == pw L W) = false := by simpa using h5
            have H5 := Lib.hid h5
            clear h5
            rcases t1 with t1 | ⟨t1, t1'⟩
            all_goals
              go_enter Tryd.func12, Tryd.ntmps12
              go_wp2
              go_quiet ((go_at_call 18; exact Calls.quiet_is (impl_power_any _ _ _ (by omega) (by omega) (by omega) (by omega))))
              go_wp2
              go_ret
              exact ⟨ret_bool (codeOk_size H5.out).symm, (Ext.alloc _ _).drewN _⟩
        · have t4 : decide (pw L W ≤ 27) = false := by simpa using h4
          rcases t1 with t1 | ⟨t1, t1'⟩
          all_goals
            go_enter Tryd.func12, Tryd.ntmps12
            go_wp2
            go_quiet ((go_at_call 18; exact Calls.quiet_is (impl_power_any _ _ _ (by omega) (by omega) (by omega) (by omega))))
            go_wp2
            go_ret
            exact ⟨ret_bool (codeOk_great (by omega)).symm, (Ext.alloc _ _).drewN _⟩
      · have t3 : decide (W ≤ 4) = false := by simpa using h3
        rcases t1 with t1 | ⟨t1, t1'⟩
        all_goals
          go_enter Tryd.func12, Tryd.ntmps12
          go_wp2
          go_quiet (fail)
          go_wp2
          go_ret
          exact ⟨ret_bool (codeOk_high (by omega)).symm, (Ext.alloc _ _).drewN _⟩
    · have t2 : decide (1 ≤ W) = false := by simpa using h2
      rcases t1 with t1 | ⟨t1, t1'⟩
      all_goals
        go_enter Tryd.func12, Tryd.ntmps12
        go_wp2
        go_quiet (fail)
        go_wp2
        go_ret
        exact ⟨ret_bool (codeOk_low (by omega)).symm, (Ext.alloc _ _).drewN _⟩
  · have n2 : ¬ L = 2 := fun h => h1 (.inl h)
    have n3 : ¬ L = 3 := fun h => h1 (.inr h)
    have t1 : (L == 2) = false := by simpa using n2
    have t1' : (L == 3) = false := by simpa using n3
    go_enter Tryd.func12, Tryd.ntmps12
    go_wp2
    go_quiet (fail)
    go_wp2
    go_ret
    exact ⟨ret_bool (codeOk_letters n2 n3).symm, (Ext.alloc _ _).drewN _⟩
end Go.Proofs.YtgaeeibcfoppbaaDoor

/- Contracts: what a word is, the letter that a code gives, a code on a word: the reference's. -/
import Derived.Test.YtgbbidlbdjbilaaDoorApplyB
namespace Go.Proofs.YtgbbidlbdjbilaaDoor
open Go.RowKit Go.Cm

theorem wordOk_at {k : Int} {s : ByteArray} {i : Nat} (hi : i < s.size) (h1 : ¬ (97 ≤ (s[i].toNat : Int) ∧ (s[i].toNat : Int) - 97 < k)) : wordOk k s = false := by
  unfold wordOk
  rw [areLet_bad hi h1]
  simp

set_option maxHeartbeats 400000 in
theorem spec_IsWord_any (k : Int) (s : ByteArray) (w : World) (hs : s.size ≤ maxLen) :
    Calls Tryd.prog 25 #[.int .i64 k, .string s] w fun e w' => e = .returned (.bool (wordOk k s)) ∧ w = w' := by
  unfold maxLen at hs
  go_enter Tryd.func25, Tryd.ntmps25
  go_wp2
  go_loop [5] (fun i => ∃ j : Nat, j ≤ s.size ∧ i = .int .i64 j ∧ areLet k (s.data.toList.take j) = true) (fun i => s.size - (intOf i).toNat)
  case atStart => exact ⟨0, by omega, rfl, by simp [areLet]⟩
  case round =>
    obtain ⟨j, hj, rfl, hp⟩ := hrel
    have HP := Lib.hid hp
    clear hp
    by_cases hlt : j < s.size
    · have hb := s[j].toNat_lt
      go_wp2
      · go_ret
        exact ⟨ret_bool (wordOk_at hlt (by omega)).symm, rfl⟩
      · go_round
        case rel => exact ⟨j + 1, by omega, by go_num, areLet_snoc hlt HP.out (by omega) (by omega)⟩
        case measure => simp [intOf]; omega
      · go_ret
        exact ⟨ret_bool (wordOk_at hlt (by omega)).symm, rfl⟩
    · have : j = s.size := by omega
      subst this
      have ha := areLet_all HP.out
      have HA := Lib.hid ha
      clear ha
      by_cases h1 : 1 ≤ k ∧ k ≤ 3
      · obtain ⟨h1, h3⟩ := h1
        go_wp2_with (go_at_call 15; refine (spec_l1In_yes _ _ _ _ h1 h3).mono ?_; rintro e w' ⟨rfl, rfl⟩)
        all_goals (go_ret; exact ⟨ret_bool (by simp [wordOk, h1, h3, HA.out]; omega), rfl⟩)
      · have H1 := Lib.hid h1
        clear h1
        go_wp2_with (go_at_call 15; refine (spec_l1In_no k 1 3 _ (by have := H1.out; omega)).mono ?_; rintro e w' ⟨rfl, rfl⟩)
        all_goals (go_ret; exact ⟨ret_bool (by have := H1.out; simp [wordOk]; omega), rfl⟩)

end Go.Proofs.YtgbbidlbdjbilaaDoor

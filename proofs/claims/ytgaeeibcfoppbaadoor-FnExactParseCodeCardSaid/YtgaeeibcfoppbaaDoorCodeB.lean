/- Contract: the reference's IsCode. -/
import Derived.Test.YtgaeeibcfoppbaaDoorCodeA
namespace Go.Proofs.YtgaeeibcfoppbaaDoor
open Go.RowKit Go.Cm

theorem codeOk_at {L W : Int} {s : ByteArray} {k : Nat} (hk : k < s.size) (h1 : ¬ (97 ≤ (s[k].toNat : Int) ∧ (s[k].toNat : Int) - 97 < L)) : codeOk L W s = false := by
  unfold codeOk
  rw [areLet_bad hk h1]
  simp

set_option maxHeartbeats 2000000 in
theorem spec_IsCode_any (L W : Int) (s : ByteArray) (w : World) (hs : s.size ≤ maxLen) :
    Calls Tryd.prog 9 #[.agg #[.int .i64 L, .int .i64 W, .string s]] w fun e w' => e = .returned (.bool (codeOk L W s)) ∧ Ext w w' := by
  unfold maxLen at hs
  by_cases h1 : 2 ≤ L ∧ L ≤ 3
  · obtain ⟨hl2, hl3⟩ := h1
    by_cases h2 : 1 ≤ W ∧ W ≤ 4
    · obtain ⟨hw1, hw4⟩ := h2
      by_cases h4 : pw L W ≤ 27
      · by_cases h5 : (s.size : Int) = pw L W
        · have t5 : ((s.size : Int) != pw L W) = false := by simpa using h5
          have t4 : decide (27 < pw L W) = false := by simpa using h4
          have H5 := Lib.hid (codeOk_rest (s := s) (L := L) (by omega) hw1 hw4 h4 h5)
          clear h5
          go_enter Tryd.func9, Tryd.ntmps9
          go_wp2
          go_quiet (first | (go_at_call 15; exact Calls.quiet_is (spec_l11Power_any _ _ _ (by omega) (by omega) (by omega) (by omega))) | (go_at_call 14; exact Calls.quiet_is (spec_l1In_yes _ _ _ _ (by omega) (by omega))))
          go_wp2
          go_loopw [3] (fun i wr => ∃ k : Nat, k ≤ s.size ∧ i = .int .i64 k ∧ areLet L (s.data.toList.take k) = true ∧ Ext (w.alloc (.cells #[.int .i64 L, .int .i64 W, .string s] 23)) wr) (fun i _ => s.size - (intOf i).toNat)
          case atStart => exact ⟨0, by omega, rfl, by simp [areLet], (Ext.refl _).drewN _⟩
          case round =>
            obtain ⟨k, hk, rfl, hp, hx⟩ := hrel
            have HP := Lib.hid hp
            clear hp
            have c0 : wr.cell? ⟨w.heap.size, 0, none⟩ = some (.int .i64 L) := hx.cell_some (by simp)
            have c2 : wr.cell? ⟨w.heap.size, 2, none⟩ = some (.string s) := hx.cell_some (by simp)
            by_cases hlt : k < s.size
            · have hb := s[k].toNat_lt
              by_cases hle : 97 ≤ (s[k].toNat : Int) ∧ (s[k].toNat : Int) - 97 < L
              · obtain ⟨hle1, hle2⟩ := hle
                have q1 : (0 : Int) ≤ (s[k].toNat : Int) - 97 := by omega
                have q2 : (s[k].toNat : Int) - 97 ≤ L - 1 := by omega
                go_wp2
                have e0 : IntKind.i64.wrap (s[k].toNat : Int) = (s[k].toNat : Int) := IntWalk.i64_in _ (by omega)
                have e1 : IntKind.i64.wrap ((s[k].toNat : Int) - 97) = (s[k].toNat : Int) - 97 := IntWalk.i64_in _ (by omega)
                have e2 : IntKind.i64.wrap (L - 1) = L - 1 := IntWalk.i64_in _ (by omega)
                go_quiet ((go_at_call 14; exact Calls.quiet_is (spec_l1In_yes _ _ _ _ q1 q2)))
                clear e0 e1 e2
                go_wp2
                go_roundw
                case rel => exact ⟨k + 1, by omega, by go_num, areLet_snoc hlt HP.out (by omega) (by omega), hx.drewN _⟩
                case measure => simp [intOf]; omega
              · have q1 : (s[k].toNat : Int) - 97 < 0 ∨ L - 1 < (s[k].toNat : Int) - 97 := by omega
                have Q1 := Lib.hid q1
                have HLE := Lib.hid hle
                clear q1 hle
                go_wp2
                have e0 : IntKind.i64.wrap (s[k].toNat : Int) = (s[k].toNat : Int) := IntWalk.i64_in _ (by omega)
                have e1 : IntKind.i64.wrap ((s[k].toNat : Int) - 97) = (s[k].toNat : Int) - 97 := IntWalk.i64_in _ (by omega)
                have e2 : IntKind.i64.wrap (L - 1) = L - 1 := IntWalk.i64_in _ (by omega)
                go_quiet ((go_at_call 14; exact Calls.quiet_is (spec_l1In_no _ _ _ _ Q1.out)))
                clear e0 e1 e2
                go_wp2
                go_ret
                exact ⟨ret_bool (codeOk_at hlt HLE.out).symm, (Ext.alloc _ _).trans (hx.drewN _)⟩
            · have : k = s.size := by omega
              subst this
              go_wp2
              go_ret
              exact ⟨ret_bool (H5.out.trans (areLet_all HP.out)).symm, (Ext.alloc _ _).trans hx⟩
        · have t5 : ((s.size : Int) != pw L W) = true := by simpa using h5
          have t4 : decide (27 < pw L W) = false := by simpa using h4
          have H5 := Lib.hid h5
          clear h5
          go_enter Tryd.func9, Tryd.ntmps9
          go_wp2
          go_quiet (first | (go_at_call 15; exact Calls.quiet_is (spec_l11Power_any _ _ _ (by omega) (by omega) (by omega) (by omega))) | (go_at_call 14; exact Calls.quiet_is (spec_l1In_yes _ _ _ _ (by omega) (by omega))))
          go_wp2
          go_ret
          exact ⟨ret_bool (codeOk_size H5.out).symm, (Ext.alloc _ _).drewN _⟩
      · have t4 : decide (27 < pw L W) = true := by simpa using h4
        go_enter Tryd.func9, Tryd.ntmps9
        go_wp2
        go_quiet (first | (go_at_call 15; exact Calls.quiet_is (spec_l11Power_any _ _ _ (by omega) (by omega) (by omega) (by omega))) | (go_at_call 14; exact Calls.quiet_is (spec_l1In_yes _ _ _ _ (by omega) (by omega))))
        go_wp2
        go_ret
        exact ⟨ret_bool (codeOk_great (by omega)).symm, (Ext.alloc _ _).drewN _⟩
    · go_enter Tryd.func9, Tryd.ntmps9
      go_wp2
      go_quiet (first | (go_at_call 14; exact Calls.quiet_is (spec_l1In_yes _ _ _ _ (by omega) (by omega))) | (go_at_call 14; exact Calls.quiet_is (spec_l1In_no _ _ _ _ (by omega))))
      go_wp2
      go_ret
      exact ⟨ret_bool (by first | exact (codeOk_low (by omega)).symm | exact (codeOk_high (by omega)).symm | exact (codeOk_width (by omega)).symm), (Ext.alloc _ _).drewN _⟩
  · go_enter Tryd.func9, Tryd.ntmps9
    go_wp2
    go_quiet ((go_at_call 14; exact Calls.quiet_is (spec_l1In_no _ _ _ _ (by omega))))
    go_wp2
    go_ret
    exact ⟨ret_bool (codeOk_letters (by omega) (by omega)).symm, (Ext.alloc _ _).drewN _⟩
end Go.Proofs.YtgaeeibcfoppbaaDoor

/- Contracts: matrices, small matrices, sums and bounds, by the program. -/
import Derived.Test.YtngbibaphakifaaDoorNumA
import Derived.Test.YtngbibaphakifaaDoorTabMath
namespace Go.Proofs.YtngbibaphakifaaDoor
open Go.RowKit Go.Mx

set_option maxHeartbeats 2000000 in
theorem impl_IsMatrix_any (v : Value) (m : List (List Int)) (w : World) (h : ReadsRows w v m) :
    Calls Tryd.prog 75 #[v] w fun e w' => e = .returned (.bool (isMat m)) ∧ w = w' := by
  obtain ⟨a, c, rfl⟩ := h.slice
  obtain ⟨-, hlc, hc⟩ := h.len
  obtain ⟨n, hn⟩ : ∃ n, n = m.length := ⟨_, rfl⟩
  rw [← hn] at hlc h ⊢
  have HM := Lib.hid (And.intro h hn)
  clear h hn
  by_cases h1 : n < 1
  · go_enter Tryd.func75, Tryd.ntmps75
    go_wp2
    go_ret
    exact ⟨ret_bool (isMat_size (by rw [← HM.out.2]; omega)).symm, rfl⟩
  by_cases h9 : 9 < n
  · go_enter Tryd.func75, Tryd.ntmps75
    go_wp2
    go_ret
    exact ⟨ret_bool (isMat_size (by rw [← HM.out.2]; omega)).symm, rfl⟩
  go_enter Tryd.func75, Tryd.ntmps75
  go_wp2
  go_loop [17] (fun i => ∃ k : Nat, k ≤ n ∧ i = .int .i64 k ∧ (m.take k).all (rowOk n) = true) (fun i => n - (intOf i).toNat)
  case atStart => exact ⟨0, by omega, rfl, by simp⟩
  case round =>
    obtain ⟨k, hk, rfl, hp⟩ := hrel
    have HP := Lib.hid hp
    clear hp
    by_cases hlt : k < n
    · have hkm : k < m.length := by rw [← HM.out.2]; exact hlt
      obtain ⟨b, o, a', c', rfl, hcell, hrow⟩ := HM.out.1.at k hkm
      obtain ⟨-, hl1, hl2⟩ := hrow.len
      obtain ⟨r, hr⟩ : ∃ r, r = m.getD k [] := ⟨_, rfl⟩
      rw [← hr] at hcell hrow hl1
      obtain ⟨L, hL⟩ : ∃ L, L = r.length := ⟨_, rfl⟩
      rw [← hL] at hcell hrow hl1
      have HR := Lib.hid (And.intro hkm (And.intro hr (And.intro hL hrow)))
      clear hkm hr hL hrow
      by_cases hLn : L = n
      · have HL := Lib.hid hLn
        have hLn1 : ((L : Int) != (n : Int)) = false := by simp [hLn]
        clear hLn
        go_wp2
        go_loop [28] (fun i => ∃ j : Nat, j ≤ L ∧ i = .int .i64 j ∧ (r.take j).all (fun x => decide (0 ≤ x ∧ x ≤ 1000000)) = true) (fun i => L - (intOf i).toNat)
        case atStart => exact ⟨0, by omega, rfl, by simp⟩
        case round =>
          obtain ⟨j, hj, rfl, hq⟩ := hrel
          have HQ := Lib.hid hq
          clear hq
          by_cases hltj : j < L
          · have hjr : j < r.length := by rw [← HR.out.2.2.1]; exact hltj
            obtain ⟨b', o', rfl, hcell'⟩ := HR.out.2.2.2.at j hjr
            obtain ⟨x, hx⟩ : ∃ x, x = r.getD j 0 := ⟨_, rfl⟩
            rw [← hx] at hcell'
            have HX := Lib.hid (And.intro hjr hx)
            clear hjr hx
            go_wp2
            · go_ret
              refine ⟨ret_bool (isMat_row HR.out.1 ?_).symm, rfl⟩
              rw [← HR.out.2.1]
              unfold rowOk
              rw [all_bad (p := fun x => decide (0 ≤ x ∧ x ≤ 1000000)) 0 HX.out.1 (by rw [← HX.out.2]; simp; omega), Bool.and_false]
            · go_round
              case rel => exact ⟨j + 1, by omega, by go_num, all_next (p := fun x => decide (0 ≤ x ∧ x ≤ 1000000)) 0 HX.out.1 HQ.out (by rw [← HX.out.2]; simp; omega)⟩
              case measure => simp [intOf]; omega
            · go_ret
              refine ⟨ret_bool (isMat_row HR.out.1 ?_).symm, rfl⟩
              rw [← HR.out.2.1]
              unfold rowOk
              rw [all_bad (p := fun x => decide (0 ≤ x ∧ x ≤ 1000000)) 0 HX.out.1 (by rw [← HX.out.2]; simp; omega), Bool.and_false]
          · have hjL : j = L := by omega
            have hrow : rowOk n r = true := by
              have h1 := HQ.out
              rw [hjL, HR.out.2.2.1] at h1
              rw [rowOk_of (by rw [← HR.out.2.2.1]; exact HL.out)]
              exact all_done h1
            have HO := Lib.hid hrow
            clear hrow
            go_wp2
            go_round
            case rel => exact ⟨k + 1, by omega, by go_num, all_next [] HR.out.1 HP.out (by rw [← HR.out.2.1]; exact HO.out)⟩
            case measure => simp [intOf]; omega
      · have hLn1 : ((L : Int) != (n : Int)) = true := by simp; omega
        have HL := Lib.hid hLn
        clear hLn
        go_wp2
        go_ret
        exact ⟨ret_bool (isMat_row HR.out.1 (by rw [← HR.out.2.1]; exact rowOk_len (by rw [← HR.out.2.2.1, ← HM.out.2]; exact HL.out))).symm, rfl⟩
    · have hkn : k = n := by omega
      have h2 := HP.out
      rw [hkn, HM.out.2] at h2
      have HA := Lib.hid (isMat_all (by rw [← HM.out.2]; omega) h2)
      clear h2
      go_wp2
      go_ret
      exact ⟨ret_bool HA.out.symm, rfl⟩
end Go.Proofs.YtngbibaphakifaaDoor

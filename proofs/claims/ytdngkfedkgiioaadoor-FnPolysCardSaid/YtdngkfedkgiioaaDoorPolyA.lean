/- Contracts: polynomials, of the program and of the reference. -/
import Derived.Test.YtdngkfedkgiioaaDoorPkC
import Derived.Test.YtdngkfedkgiioaaDoorPkB
import Derived.BigQuiet
namespace Go.Proofs.YtdngkfedkgiioaaDoor
open Go.RowKit Go.Mx

set_option maxHeartbeats 1000000 in
theorem impl_areNumbers_any (v : Value) (p : List Int) (most : Nat) (qm : Int) (w : World) (h : ReadsI w v p) (hm : most ≤ 1000) (hqm : qm = (most : Int)) :
    Calls Tryd.prog 58 #[v, .int .i64 qm] w fun e w' => e = .returned (.bool (numsOk most p)) ∧ w = w' := by
  subst hqm
  obtain ⟨a, c, rfl⟩ := h.slice
  obtain ⟨-, hlc, hc⟩ := h.len
  obtain ⟨n, hn⟩ : ∃ n, n = p.length := ⟨_, rfl⟩
  rw [← hn] at hlc h ⊢
  have HM := Lib.hid (And.intro h hn)
  clear h hn
  by_cases h2 : most < n
  · go_enter Tryd.func58, Tryd.ntmps58
    go_wp2
    go_ret
    exact ⟨ret_bool (numsOk_long (by rw [← HM.out.2]; omega)).symm, rfl⟩
  · go_enter Tryd.func58, Tryd.ntmps58
    go_wp2
    go_loop [6, 13] (fun _ i => ∃ k : Nat, k ≤ n ∧ i = .int .i64 k ∧ (p.take k).all numOk = true) (fun _ i => n - (intOf i).toNat)
    case atStart => exact ⟨0, by omega, rfl, by simp⟩
    case round =>
      obtain ⟨k, hk, rfl, hp⟩ := hrel
      have HP := Lib.hid hp
      clear hp
      by_cases hlt : k < n
      · have hkm : k < p.length := by rw [← HM.out.2]; exact hlt
        obtain ⟨b, o, rfl, hcell⟩ := HM.out.1.at k hkm
        obtain ⟨x, hx⟩ : ∃ x, x = p.getD k 0 := ⟨_, rfl⟩
        rw [← hx] at hcell
        have HK := Lib.hid (And.intro hkm hx)
        clear hkm hx
        go_wp2
        · go_ret
          exact ⟨ret_bool (numsOk_bad HK.out.1 (by rw [← HK.out.2]; unfold numOk; simp; omega)).symm, rfl⟩
        · go_round
          case rel => exact ⟨k + 1, by omega, by go_num, all_next 0 HK.out.1 HP.out (by rw [← HK.out.2]; unfold numOk; simp; omega)⟩
          case measure => simp [intOf]; omega
        · go_ret
          exact ⟨ret_bool (numsOk_bad HK.out.1 (by rw [← HK.out.2]; unfold numOk; simp; omega)).symm, rfl⟩
      · have hkn : k = n := by omega
        have ha := HP.out
        rw [hkn, HM.out.2] at ha
        have HA := Lib.hid ha
        clear ha
        go_wp2
        go_ret
        exact ⟨ret_bool (numsOk_all (by rw [← HM.out.2]; omega) HA.out).symm, rfl⟩

set_option maxHeartbeats 1000000 in
theorem spec_l7Fits_any (v : Value) (p : List Int) (most : Nat) (qm : Int) (w : World) (h : ReadsI w v p) (_hm : most ≤ 1000) (hqm : qm = (most : Int)) :
    Calls Tryd.prog 60 #[v, .int .i64 qm] w fun e w' => e = .returned (.bool (numsOk most p)) ∧ w = w' := by
  subst hqm
  obtain ⟨a, c, rfl⟩ := h.slice
  obtain ⟨-, hlc, hc⟩ := h.len
  obtain ⟨n, hn⟩ : ∃ n, n = p.length := ⟨_, rfl⟩
  rw [← hn] at hlc h ⊢
  have HM := Lib.hid (And.intro h hn)
  clear h hn
  go_enter Tryd.func60, Tryd.ntmps60
  go_wp2
  go_loop [5] (fun i => ∃ k : Nat, k ≤ n ∧ i = .int .i64 k ∧ (p.take k).all numOk = true) (fun i => n - (intOf i).toNat)
  case atStart => exact ⟨0, by omega, rfl, by simp⟩
  case round =>
    obtain ⟨k, hk, rfl, hp⟩ := hrel
    have HP := Lib.hid hp
    clear hp
    by_cases hlt : k < n
    · have hkm : k < p.length := by rw [← HM.out.2]; exact hlt
      obtain ⟨b, o, rfl, hcell⟩ := HM.out.1.at k hkm
      obtain ⟨x, hx⟩ : ∃ x, x = p.getD k 0 := ⟨_, rfl⟩
      rw [← hx] at hcell
      have HK := Lib.hid (And.intro hkm hx)
      clear hkm hx
      go_wp2_with fail
      with_reducible refine (spec_l1In_any _ _ _ _).mono ?_
      rintro e w1 ⟨rfl, rfl⟩
      cases hb : (decide (-1000000 ≤ x) && decide (x ≤ 1000000)) with
      | true =>
        have HB := Lib.hid hb
        clear hb
        go_wp2
        go_round
        case rel => exact ⟨k + 1, by omega, by go_num, all_next 0 HK.out.1 HP.out (by rw [← HK.out.2]; have := HB.out; unfold numOk; simp at this ⊢; omega)⟩
        case measure => simp [intOf]; omega
      | false =>
        have HB := Lib.hid hb
        clear hb
        go_wp2
        go_ret
        exact ⟨ret_bool (numsOk_bad HK.out.1 (by rw [← HK.out.2]; have := HB.out; unfold numOk; simp at this ⊢; omega)).symm, rfl⟩
    · have hkn : k = n := by omega
      have ha := HP.out
      rw [hkn, HM.out.2] at ha
      have HA := Lib.hid ha
      clear ha
      go_wp2
      go_ret
      refine ⟨ret_bool ?_, rfl⟩
      by_cases h2 : most < n
      · rw [numsOk_long (by rw [← HM.out.2]; omega)]; simp; omega
      · rw [numsOk_all (by rw [← HM.out.2]; omega) HA.out]; simp; omega

set_option maxHeartbeats 1000000 in
theorem impl_valueAt_any (v : Value) (p : List Int) (x : Int) (w : World) (h : ReadsI w v p) (h5 : p.length ≤ 5) (hp : ∀ j, -1000000 ≤ p.getD j 0 ∧ p.getD j 0 ≤ 1000000) (hx : -1000 ≤ x ∧ x ≤ 1000) :
    Calls Tryd.prog 59 #[v, .int .i64 x] w fun e w' => e = .returned (.int .i64 (polyV x p)) ∧ w = w' := by
  obtain ⟨a, c, rfl⟩ := h.slice
  obtain ⟨n, hn⟩ : ∃ n, n = p.length := ⟨_, rfl⟩
  have hst := fun k (hk : k < p.length) => And.intro (polyV_step x p k hk) (And.intro (polyV_drop_bd hx hp h5 (k + 1)) (And.intro (polyV_mul_bd hx hp h5 k) (polyV_drop_bd hx hp h5 k)))
  rw [← hn] at h h5 hst ⊢
  have HM := Lib.hid (And.intro h (And.intro hn (And.intro hst hp)))
  clear h hn hst hp
  go_enter Tryd.func59, Tryd.ntmps59
  go_wp2
  go_loop [5, 6] (fun s i => ∃ k : Nat, k ≤ n ∧ i = .int .i64 ((k : Int) - 1) ∧ s = .int .i64 (polyV x (p.drop k))) (fun _ i => (intOf i + 1).toNat)
  case atStart => exact ⟨n, Nat.le_refl _, rfl, by rw [List.drop_of_length_le (by rw [← HM.out.2.1]; exact Nat.le_refl _)]; rfl⟩
  case round =>
    obtain ⟨k, hk, rfl, rfl⟩ := hrel
    cases k with
    | zero =>
      go_wp2
      go_ret
      exact ⟨rfl, rfl⟩
    | succ k =>
      obtain ⟨h1, ⟨h2l, h2h⟩, ⟨h3l, h3h⟩, ⟨h4l, h4h⟩⟩ := HM.out.2.2.1 k (by omega)
      obtain ⟨b, o, rfl, hcell⟩ := HM.out.1.at k (by have := HM.out.2.1; omega)
      obtain ⟨y, hy⟩ : ∃ y, y = p.getD k 0 := ⟨_, rfl⟩
      obtain ⟨s, hs⟩ : ∃ s, s = polyV x (p.drop (k + 1)) := ⟨_, rfl⟩
      obtain ⟨z, hz⟩ : ∃ z, z = polyV x (p.drop k) := ⟨_, rfl⟩
      have e1 : ((k + 1 : Nat) : Int) - 1 = (k : Int) := by omega
      rw [e1, ← hs]
      rw [← hy] at h1 hcell
      rw [← hs] at h1 h2l h2h h3l h3h
      rw [← hz] at h1 h4l h4h
      have HZ := Lib.hid (And.intro hz h1)
      have hb1 : -9223372036854775808 ≤ s * x + y := by omega
      have hb2 : s * x + y ≤ 9223372036854775807 := by omega
      clear hy hs hz h1 e1
      go_wp2
      go_round
      case rel => exact ⟨k, by omega, rfl, by rw [← HZ.out.1, HZ.out.2]⟩
      case measure => simp [intOf]
end Go.Proofs.YtdngkfedkgiioaaDoor

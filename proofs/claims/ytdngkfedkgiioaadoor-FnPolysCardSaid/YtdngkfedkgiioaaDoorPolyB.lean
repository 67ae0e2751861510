/- Contracts: values of polynomials, the cut at the end. -/
import Derived.Test.YtdngkfedkgiioaaDoorPolyA
import Derived.Test.YtdngkfedkgiioaaDoorPkA
namespace Go.Proofs.YtdngkfedkgiioaaDoor
open Go.RowKit Go.Mx

/-- the value, if the numbers are right -/
def atOk (p : List Int) (x : Int) : Bool := numsOk 5 p && decide (-1000 ≤ x ∧ x ≤ 1000)
def atV (p : List Int) (x : Int) : Int := if atOk p x = true then polyV x p else 0

set_option maxHeartbeats 1000000 in
theorem impl_PolyAt_any (v : Value) (p : List Int) (x : Int) (w : World) (h : ReadsI w v p) :
    Calls Tryd.prog 15 #[v, .int .i64 x] w fun e w' => e = .returned (.tuple #[.int .i64 (atV p x), .bool (atOk p x)]) ∧ w = w' := by
  have ha := impl_areNumbers_any v p 5 5 w h (by omega) rfl
  cases hn : numsOk 5 p with
  | false =>
    rw [hn] at ha
    have e1 : atOk p x = false := by simp [atOk, hn]
    have e2 : atV p x = 0 := by simp [atV, e1]
    rw [e1, e2]
    have HA := Lib.hid ha
    clear ha e1 e2 hn
    go_enter Tryd.func15, Tryd.ntmps15
    go_wp2_with (go_at_call 58; with_reducible refine HA.out.mono ?_; rintro e w' ⟨rfl, rfl⟩)
    go_ret2
    exact ⟨rfl, rfl⟩
  | true =>
    rw [hn] at ha
    have HA := Lib.hid ha
    clear ha
    by_cases hx1 : x < -1000
    · have e1 : atOk p x = false := by simp [atOk]; omega
      have e2 : atV p x = 0 := by simp [atV, e1]
      rw [e1, e2]
      clear e1 e2 hn
      go_enter Tryd.func15, Tryd.ntmps15
      go_wp2_with (go_at_call 58; with_reducible refine HA.out.mono ?_; rintro e w' ⟨rfl, rfl⟩)
      go_ret2
      exact ⟨rfl, rfl⟩
    · by_cases hx2 : 1000 < x
      · have e1 : atOk p x = false := by simp [atOk]; omega
        have e2 : atV p x = 0 := by simp [atV, e1]
        rw [e1, e2]
        clear e1 e2 hn
        go_enter Tryd.func15, Tryd.ntmps15
        go_wp2_with (go_at_call 58; with_reducible refine HA.out.mono ?_; rintro e w' ⟨rfl, rfl⟩)
        go_ret2
        exact ⟨rfl, rfl⟩
      · have e1 : atOk p x = true := by simp [atOk, hn]; omega
        have e2 : atV p x = polyV x p := by simp [atV, e1]
        rw [e1, e2]
        have hf := numsOk_yes hn
        have hv := impl_valueAt_any v p x w h hf.1 hf.2 ⟨by omega, by omega⟩
        have HV := Lib.hid hv
        clear e1 e2 hn hf hv
        go_enter Tryd.func15, Tryd.ntmps15
        go_wp2_with (first | (go_at_call 58; with_reducible refine HA.out.mono ?_; rintro e w' ⟨rfl, rfl⟩) | (go_at_call 59; with_reducible refine HV.out.mono ?_; rintro e w' ⟨rfl, rfl⟩))
        go_ret2
        exact ⟨rfl, rfl⟩

set_option maxHeartbeats 1000000 in
theorem spec_PolyAt_any (v : Value) (p : List Int) (x : Int) (w : World) (h : ReadsI w v p) :
    Calls Tryd.prog 16 #[v, .int .i64 x] w fun e w' => e = .returned (.tuple #[.int .i64 (atV p x), .bool (atOk p x)]) ∧ w = w' := by
  have ha := spec_l7Fits_any v p 5 5 w h (by omega) rfl
  cases hn : numsOk 5 p with
  | false =>
    rw [hn] at ha
    have e1 : atOk p x = false := by simp [atOk, hn]
    have e2 : atV p x = 0 := by simp [atV, e1]
    rw [e1, e2]
    have HA := Lib.hid ha
    clear ha e1 e2 hn
    go_enter Tryd.func16, Tryd.ntmps16
    go_wp2_with (go_at_call 60; with_reducible refine HA.out.mono ?_; rintro e w' ⟨rfl, rfl⟩)
    go_ret2
    exact ⟨rfl, rfl⟩
  | true =>
    rw [hn] at ha
    have HA := Lib.hid ha
    clear ha
    by_cases hx1 : x < -1000 ∨ 1000 < x
    · have e1 : atOk p x = false := by simp [atOk]; omega
      have e2 : atV p x = 0 := by simp [atV, e1]
      rw [e1, e2]
      have HX := Lib.hid hx1
      clear e1 e2 hn hx1
      go_enter Tryd.func16, Tryd.ntmps16
      go_wp2_with (first | (go_at_call 60; with_reducible refine HA.out.mono ?_; rintro e w' ⟨rfl, rfl⟩) | (go_at_call 55; with_reducible refine (spec_l1In_no _ _ _ _ HX.out).mono ?_; rintro e w' ⟨rfl, rfl⟩))
      go_ret2
      exact ⟨rfl, rfl⟩
    · have hxl : -1000 ≤ x := by omega
      have hxh : x ≤ 1000 := by omega
      have e1 : atOk p x = true := by simp [atOk, hn]; omega
      have e2 : atV p x = polyV x p := by simp [atV, e1]
      rw [e1, e2]
      obtain ⟨h5, hp⟩ := numsOk_yes hn
      obtain ⟨a, c, rfl⟩ := h.slice
      obtain ⟨n, hnn⟩ : ∃ n, n = p.length := ⟨_, rfl⟩
      have hst := fun k (hk : k < p.length) => And.intro (polyV_step x p k hk) (And.intro (polyV_drop_bd ⟨hxl, hxh⟩ hp h5 (k + 1)) (And.intro (polyV_mul_bd ⟨hxl, hxh⟩ hp h5 k) (polyV_drop_bd ⟨hxl, hxh⟩ hp h5 k)))
      rw [← hnn] at h h5 hst HA ⊢
      have HM := Lib.hid (And.intro h (And.intro hnn (And.intro hst hp)))
      clear h hnn hst hp e1 e2 hn hx1
      go_enter Tryd.func16, Tryd.ntmps16
      go_wp2_with (first | (go_at_call 60; with_reducible refine HA.out.mono ?_; rintro e w' ⟨rfl, rfl⟩) | (go_at_call 55; with_reducible refine (spec_l1In_yes _ _ _ _ (by omega) (by omega)).mono ?_; rintro e w' ⟨rfl, rfl⟩))
      go_loop [6, 7] (fun s i => ∃ k : Nat, k ≤ n ∧ i = .int .i64 ((k : Int) - 1) ∧ s = .int .i64 (polyV x (p.drop k))) (fun _ i => (intOf i + 1).toNat)
      case atStart => exact ⟨n, Nat.le_refl _, rfl, by rw [List.drop_of_length_le (by rw [← HM.out.2.1]; exact Nat.le_refl _)]; rfl⟩
      case round =>
        obtain ⟨k, hk, rfl, rfl⟩ := hrel
        cases k with
        | zero =>
          go_wp2
          go_ret2
          exact ⟨rfl, rfl⟩
        | succ k =>
          obtain ⟨h1, ⟨h2l, h2h⟩, ⟨h3l, h3h⟩, ⟨h4l, h4h⟩⟩ := HM.out.2.2.1 k (by omega)
          obtain ⟨b, o, rfl, hcell⟩ := HM.out.1.at k (by have := HM.out.2.1; omega)
          obtain ⟨y, hy⟩ : ∃ y, y = p.getD k 0 := ⟨_, rfl⟩
          obtain ⟨s, hs⟩ : ∃ s, s = polyV x (p.drop (k + 1)) := ⟨_, rfl⟩
          obtain ⟨z, hz⟩ : ∃ z, z = polyV x (p.drop k) := ⟨_, rfl⟩
          have e1 : ((k + 1 : Nat) : Int) - 1 = (k : Int) := by omega
          rw [e1, ← hs]
          rw [← hy] at h1 hcell
          rw [← hs] at h1 h2l h2h h3l h3h
          rw [← hz] at h1 h4l h4h
          have HZ := Lib.hid (And.intro hz h1)
          have hb1 : -9223372036854775808 ≤ s * x + y := by omega
          have hb2 : s * x + y ≤ 9223372036854775807 := by omega
          clear hy hs hz h1 e1
          go_wp2
          go_round
          case rel => exact ⟨k, by omega, rfl, by rw [← HZ.out.1, HZ.out.2]⟩
          case measure => simp [intOf]

set_option maxHeartbeats 1000000 in
theorem impl_trimmed_any (B g cap : Nat) (p : List Int) (w : World) (h : Own w B 3 (.slice (some ⟨g, 0, none⟩) p.length cap) (icells p)) :
    Calls Tryd.prog 48 #[.slice (some ⟨g, 0, none⟩) p.length cap] w fun e w' => e = .returned (.slice (some ⟨g, 0, none⟩) (trimL p).length cap) ∧ w = w' := by
  obtain ⟨n, hn⟩ : ∃ n, n = p.length := ⟨_, rfl⟩
  have hcp := h.caps
  unfold maxLen at hcp
  obtain ⟨hcp1, hcp2⟩ := hcp
  rw [← hn] at h hcp1 ⊢
  have HM := Lib.hid (And.intro h hn)
  have ht : (trimL p).length = trimN p n := by unfold trimL; rw [List.length_take, ← hn]; have := trimN_le p n; omega
  rw [ht]
  obtain ⟨q, hq⟩ : ∃ q, q = trimN p n := ⟨_, rfl⟩
  rw [← hq]
  have HQ := Lib.hid hq
  clear h hn ht hq
  go_enter Tryd.func48, Tryd.ntmps48
  go_wp2
  go_loop [3] (fun i => ∃ k : Nat, k ≤ n ∧ i = .int .i64 k ∧ trimN p k = q) (fun i => (intOf i).toNat)
  case atStart => exact ⟨n, Nat.le_refl _, rfl, HQ.out.symm⟩
  case round =>
    obtain ⟨k, hk, rfl, hp⟩ := hrel
    have HP := Lib.hid hp
    clear hp
    cases k with
    | zero =>
      have hq0 : q = 0 := by have := HP.out; simpa [trimN] using this.symm
      subst hq0
      go_wp2
      go_ret
      exact ⟨rfl, rfl⟩
    | succ k =>
      have hcell := HM.out.1.int_at k (by have := HM.out.2; omega)
      obtain ⟨y, hy⟩ : ∃ y, y = p.getD k 0 := ⟨_, rfl⟩
      have e1 : ((k + 1 : Nat) : Int) = (k : Int) + 1 := by omega
      rw [e1]
      rw [← hy] at hcell
      have HY := Lib.hid hy
      clear hy e1
      by_cases hy0 : y = 0
      · subst hy0
        go_wp2
        go_round
        case rel => exact ⟨k, by omega, by go_num, by rw [← HP.out]; exact (trimN_zero HY.out.symm).symm⟩
        case measure => simp [intOf]
      · have hyb : (y == 0) = false := by simpa using hy0
        have hq1 : q = k + 1 := by rw [← HP.out]; exact trimN_stop (by rw [← HY.out]; exact hy0)
        subst hq1
        clear hy0
        go_wp2
        go_ret
        exact ⟨rfl, rfl⟩
end Go.Proofs.YtdngkfedkgiioaaDoor

/- Contracts: determinants, of the program and of the reference. -/
import Derived.Test.YtdngkfedkgiioaaDoorDetB
namespace Go.Proofs.YtdngkfedkgiioaaDoor
open Go.RowKit Go.Mx

set_option maxRecDepth 100000 in
set_option maxHeartbeats 2000000 in
theorem impl_determinant_any : ∀ (n : Nat) (t : List (List Int)) (v : Value) (w : World), Sq n 10000 t → n ≤ 4 → ReadsRows w v t →
    Calls Tryd.prog 54 #[v] w fun e w' => e = .returned (.int .i64 (detL n t)) ∧ Ext w w'
  | 0, t, v, w, hs, _, h => by
    obtain ⟨a, c, rfl⟩ := h.slice
    rw [hs.len]
    go_enter Tryd.func54, Tryd.ntmps54
    go_wp2
    go_ret
    exact ⟨rfl, Ext.refl _⟩
  | n + 1, t, v, w, hs, hn, h => by
    have IH := fun t v w => impl_determinant_any n t v w
    obtain ⟨a, c, rfl⟩ := h.slice
    rw [hs.len]
    have hlen := h.len
    obtain ⟨-, hlc, hc⟩ := hlen
    rw [hs.len] at hlc h
    have hN0 : (((n + 1 : Nat) : Int) == 0) = false := by simp; omega
    obtain ⟨b, o, a0, c0, rfl, hcell0, hrow0⟩ := h.at 0 (by rw [hs.len]; omega)
    rw [Nat.add_zero] at hcell0
    rw [hs.row 0 (by omega)] at hcell0 hrow0
    obtain ⟨N, hN⟩ : ∃ N, N = n + 1 := ⟨_, rfl⟩
    obtain ⟨-, hlc0, hc0⟩ := hrow0.len
    have hst := fun j (hj : j < n + 1) => det_step_bd hs (by omega) j hj
    have hwo := fun w' (hx : Ext w w') j (hj : j < n + 1) => impl_without_any _ t (n + 1) j w' (h.ext hx) hs.len (by omega) (by omega) hs.row hj
    have hdet := fun j (hj : j < n + 1) u w' => IH (minor t j) u w' (hs.minor j hj) (by omega)
    rw [← detTo_all]
    rw [← hN] at h hlc hcell0 hrow0 hN0 hlc0 hst hwo hdet ⊢
    have HM := Lib.hid (And.intro h (And.intro hN (And.intro hst (And.intro hwo (And.intro hdet hrow0)))))
    have hN5 : N ≤ 4 := by omega
    have hN1 : 1 ≤ N := by omega
    clear h hN hst hwo hdet hrow0 hs IH hn
    go_enter Tryd.func54, Tryd.ntmps54
    go_wp2
    go_loopw [3, 4, 14] (fun s g i wr => ∃ j : Nat, j ≤ N ∧ i = .int .i64 j ∧ s = .int .i64 (detTo n t j) ∧ g = .int .i64 (sgn j) ∧ Ext w wr) (fun _ _ i _ => N - (intOf i).toNat)
    case atStart => exact ⟨0, by omega, rfl, rfl, rfl, Ext.refl _⟩
    case round =>
      clear hcell0
      obtain ⟨j, hj, rfl, rfl, rfl, hx⟩ := hrel
      by_cases hlt : j < N
      · obtain ⟨b', o', rfl, hcell⟩ := (HM.out.2.2.2.2.2.ext hx).at j (by have := HM.out.2.2.2.2.2.len.1; omega)
        obtain ⟨⟨h1l, h1h⟩, ⟨h2l, h2h⟩, ⟨h3l, h3h⟩⟩ := HM.out.2.2.1 j hlt
        have hwo := HM.out.2.2.2.1 wr hx j hlt
        have hdet := HM.out.2.2.2.2.1 j hlt
        have hsucc := detTo_succ n t j
        have hzero := detTo_zero_step (n := n) (t := t) (k := j)
        have hsg := sgn_succ j
        obtain ⟨hg1, hg2⟩ : -1 ≤ sgn j ∧ sgn j ≤ 1 := by rcases sgn_or j with h | h <;> omega
        obtain ⟨x, hxx⟩ : ∃ x, x = (t.getD 0 []).getD j 0 := ⟨_, rfl⟩
        obtain ⟨d, hd⟩ : ∃ d, d = detL n (minor t j) := ⟨_, rfl⟩
        obtain ⟨s, hs⟩ : ∃ s, s = detTo n t j := ⟨_, rfl⟩
        obtain ⟨g, hg⟩ : ∃ g, g = sgn j := ⟨_, rfl⟩
        rw [← hxx] at hcell h1l h1h h2l h2h hsucc hzero
        rw [← hd] at h2l h2h hdet hsucc
        rw [← hs] at h3l h3h hsucc hzero ⊢
        rw [← hg] at h1l h1h h2l h2h hsucc hsg hg1 hg2 ⊢
        have HS := Lib.hid (And.intro hwo (And.intro hdet (And.intro hsucc (And.intro hzero hsg))))
        clear hwo hdet hsucc hzero hsg hxx hd hs hg
        by_cases hx0 : x = 0
        · subst hx0
          go_wp2
          go_roundw
          case rel => exact ⟨j + 1, by omega, by go_num, by rw [HS.out.2.2.2.1 rfl], by rw [HS.out.2.2.2.2], hx⟩
          case measure => simp [intOf]; omega
        · have hxb : (x != 0) = true := by simpa using hx0
          have hb1 : -9223372036854775808 ≤ s + g * x * d := by omega
          have hb2 : s + g * x * d ≤ 9223372036854775807 := by omega
          clear hx0
          go_wp2_with fail
          with_reducible refine HS.out.1.mono ?_
          rintro e w1 ⟨u, rfl, hr, hx1⟩
          replace hx := hx.trans hx1
          have HR := Lib.hid hr
          clear hr hx1 hcell
          go_wp2_with fail
          with_reducible refine (HS.out.2.1 _ _ HR.out).mono ?_
          rintro e w2 ⟨rfl, hx2⟩
          replace hx := hx.trans hx2
          clear hx2
          go_wp2
          go_roundw
          case rel => exact ⟨j + 1, by omega, by go_num, by rw [HS.out.2.2.1], by rw [HS.out.2.2.2.2], hx⟩
          case measure => simp [intOf]; omega
      · have hjN : j = N := by omega
        subst hjN
        go_wp2
        go_ret
        first | exact ⟨rfl, hx⟩ | exact ⟨by rw [HM.out.2.1]; rfl, hx⟩
end Go.Proofs.YtdngkfedkgiioaaDoor

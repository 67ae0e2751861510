/- Contracts: the determinant of a table, by the program. -/
import Derived.Test.YtdngkfedkgiioaaDoorDetC
import Derived.Test.YtdngkfedkgiioaaDoorPkB
namespace Go.Proofs.YtdngkfedkgiioaaDoor
open Go.RowKit Go.Mx

set_option maxHeartbeats 2000000 in
theorem impl_isSquare_any (v : Value) (t : List (List Int)) (w : World) (h : ReadsRows w v t) :
    Calls Tryd.prog 53 #[v, .int .i64 10000] w fun e w' => e = .returned (.bool (sqOk t)) ∧ w = w' := by
  obtain ⟨a, c, rfl⟩ := h.slice
  obtain ⟨-, hlc, hc⟩ := h.len
  obtain ⟨n, hn⟩ : ∃ n, n = t.length := ⟨_, rfl⟩
  rw [← hn] at hlc h ⊢
  have HM := Lib.hid (And.intro h hn)
  clear h hn
  by_cases h4 : 4 < n
  · go_enter Tryd.func53, Tryd.ntmps53
    go_wp2
    go_ret
    exact ⟨ret_bool (sqOk_long (by rw [← HM.out.2]; omega)).symm, rfl⟩
  go_enter Tryd.func53, Tryd.ntmps53
  go_wp2
  go_loop [14] (fun i => ∃ k : Nat, k ≤ n ∧ i = .int .i64 k ∧ (t.take k).all (sqRow n) = true) (fun i => n - (intOf i).toNat)
  case atStart => exact ⟨0, by omega, rfl, by simp⟩
  case round =>
    obtain ⟨k, hk, rfl, hp⟩ := hrel
    have HP := Lib.hid hp
    clear hp
    by_cases hlt : k < n
    · have hkm : k < t.length := by rw [← HM.out.2]; exact hlt
      obtain ⟨b, o, a', c', rfl, hcell, hrow⟩ := HM.out.1.at k hkm
      obtain ⟨-, hl1, hl2⟩ := hrow.len
      obtain ⟨r, hr⟩ : ∃ r, r = t.getD k [] := ⟨_, rfl⟩
      rw [← hr] at hcell hrow hl1
      obtain ⟨L, hL⟩ : ∃ L, L = r.length := ⟨_, rfl⟩
      rw [← hL] at hcell hrow hl1
      have HR := Lib.hid (And.intro hkm (And.intro hr (And.intro hL hrow)))
      clear hkm hr hL hrow
      by_cases hLn : L = n
      · have HL := Lib.hid hLn
        have hLn1 : ((L : Int) != (n : Int)) = false := by simp [hLn]
        clear hLn
        go_wp2
        go_loop [25] (fun i => ∃ j : Nat, j ≤ L ∧ i = .int .i64 j ∧ (r.take j).all (fun x => decide (-10000 ≤ x ∧ x ≤ 10000)) = true) (fun i => L - (intOf i).toNat)
        case atStart => exact ⟨0, by omega, rfl, by simp⟩
        case round =>
          obtain ⟨j, hj, rfl, hq⟩ := hrel
          have HQ := Lib.hid hq
          clear hq
          by_cases hltj : j < L
          · have hjr : j < r.length := by rw [← HR.out.2.2.1]; exact hltj
            obtain ⟨b', o', rfl, hcell'⟩ := HR.out.2.2.2.at j hjr
            obtain ⟨x, hx⟩ : ∃ x, x = r.getD j 0 := ⟨_, rfl⟩
            rw [← hx] at hcell'
            have HX := Lib.hid (And.intro hjr hx)
            clear hjr hx
            go_wp2
            · go_ret
              exact ⟨ret_bool (sqOk_row HR.out.1 (by rw [← HR.out.2.1]; exact sqRow_bad HX.out.1 (by rw [← HX.out.2]; omega))).symm, rfl⟩
            · go_round
              case rel => exact ⟨j + 1, by omega, by go_num, all_next (p := fun x => decide (-10000 ≤ x ∧ x ≤ 10000)) 0 HX.out.1 HQ.out (by rw [← HX.out.2]; simp; omega)⟩
              case measure => simp [intOf]; omega
            · go_ret
              exact ⟨ret_bool (sqOk_row HR.out.1 (by rw [← HR.out.2.1]; exact sqRow_bad HX.out.1 (by rw [← HX.out.2]; omega))).symm, rfl⟩
          · have hjL : j = L := by omega
            have hrow : sqRow n r = true := by
              have h1 := HQ.out
              rw [hjL, HR.out.2.2.1] at h1
              rw [sqRow_of (by rw [← HR.out.2.2.1]; exact HL.out)]
              exact all_done h1
            have HO := Lib.hid hrow
            clear hrow
            go_wp2
            go_round
            case rel => exact ⟨k + 1, by omega, by go_num, all_next [] HR.out.1 HP.out (by rw [← HR.out.2.1]; exact HO.out)⟩
            case measure => simp [intOf]; omega
      · have hLn1 : ((L : Int) != (n : Int)) = true := by simp; omega
        have HL := Lib.hid hLn
        clear hLn
        go_wp2
        go_ret
        exact ⟨ret_bool (sqOk_row HR.out.1 (by rw [← HR.out.2.1]; exact sqRow_len (by rw [← HR.out.2.2.1, ← HM.out.2]; exact HL.out))).symm, rfl⟩
    · have hkn : k = n := by omega
      have h2 := HP.out
      rw [hkn, HM.out.2] at h2
      have HA := Lib.hid (sqOk_all h2)
      clear h2
      go_wp2
      go_ret
      exact ⟨ret_bool (by rw [HA.out, ← HM.out.2]; simp; omega), rfl⟩

set_option maxHeartbeats 1000000 in
theorem impl_DeterminantOf_any (v : Value) (t : List (List Int)) (w : World) (h : ReadsRows w v t) :
    Calls Tryd.prog 10 #[v] w fun e w' => e = .returned (.tuple #[.int .i64 (detV t), .bool (sqOk t)]) ∧ Ext w w' := by
  have hi := impl_isSquare_any v t w h
  cases hm : sqOk t with
  | false =>
    rw [hm] at hi
    have HI := Lib.hid (And.intro hi (detV_no hm))
    clear hi hm
    rw [HI.out.2]
    go_enter Tryd.func10, Tryd.ntmps10
    go_wp2_with (go_at_call 53; with_reducible refine HI.out.1.mono ?_; rintro e w' ⟨rfl, rfl⟩)
    go_ret2
    exact ⟨rfl, Ext.refl _⟩
  | true =>
    rw [hm] at hi
    have hd := impl_determinant_any t.length t v w (sqOk_yes hm).1 (sqOk_yes hm).2 h
    rw [← detV_yes hm] at hd
    have HI := Lib.hid (And.intro hi hd)
    clear hi hm hd
    go_enter Tryd.func10, Tryd.ntmps10
    go_wp2_with (go_at_call 53; with_reducible refine HI.out.1.mono ?_; rintro e w' ⟨rfl, rfl⟩)
    go_wp2_with fail
    with_reducible refine HI.out.2.mono ?_
    rintro e w1 ⟨rfl, hx⟩
    go_wp2
    go_ret2
    exact ⟨rfl, hx⟩

set_option maxHeartbeats 1000000 in
theorem impl_IsRootless_any (v : Value) (t : List (List Int)) (w : World) (h : ReadsRows w v t) :
    Calls Tryd.prog 23 #[v] w fun e w' => e = .returned (.bool (isSm t && decide (detL t.length t ≠ 0))) ∧ Ext w w' := by
  have hi := impl_IsSmall_any v t w h
  cases hm : isSm t with
  | false =>
    rw [hm] at hi
    have HI := Lib.hid hi
    clear hi hm
    go_enter Tryd.func23, Tryd.ntmps23
    go_wp2_with fail
    with_reducible refine HI.out.mono ?_
    rintro e w1 ⟨rfl, rfl⟩
    go_wp2
    go_ret
    exact ⟨rfl, Ext.refl _⟩
  | true =>
    rw [hm] at hi
    have hd := impl_determinant_any t.length t v w (isSm_sq hm).1 (isSm_sq hm).2 h
    have HI := Lib.hid (And.intro hi hd)
    clear hi hm hd
    go_enter Tryd.func23, Tryd.ntmps23
    go_wp2_with fail
    with_reducible refine HI.out.1.mono ?_
    rintro e w1 ⟨rfl, rfl⟩
    go_wp2_with fail
    with_reducible refine HI.out.2.mono ?_
    rintro e w1 ⟨rfl, hx⟩
    go_wp2
    go_ret
    exact ⟨ret_bool (by rw [Bool.eq_iff_iff]; simp), hx⟩
end Go.Proofs.YtdngkfedkgiioaaDoor

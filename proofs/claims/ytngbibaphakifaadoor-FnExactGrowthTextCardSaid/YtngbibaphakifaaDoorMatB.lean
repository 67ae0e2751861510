/- Contracts: matrices and small matrices, by the reference; small ones and sums, by the program. -/
import Derived.Test.YtngbibaphakifaaDoorMatA
namespace Go.Proofs.YtngbibaphakifaaDoor
open Go.RowKit Go.Mx

set_option maxHeartbeats 2000000 in
theorem spec_IsMatrix_any (v : Value) (m : List (List Int)) (w : World) (h : ReadsRows w v m) :
    Calls Tryd.prog 76 #[v] w fun e w' => e = .returned (.bool (isMat m)) ∧ w = w' := by
  obtain ⟨a, c, rfl⟩ := h.slice
  obtain ⟨-, hlc, hc⟩ := h.len
  obtain ⟨n, hn⟩ : ∃ n, n = m.length := ⟨_, rfl⟩
  rw [← hn] at hlc h ⊢
  have HM := Lib.hid (And.intro h hn)
  clear h hn
  go_enter Tryd.func76, Tryd.ntmps76
  go_wp2
  go_loop [3] (fun i => ∃ k : Nat, k ≤ n ∧ i = .int .i64 k ∧ (m.take k).all (rowOk n) = true) (fun i => n - (intOf i).toNat)
  case atStart => exact ⟨0, by omega, rfl, by simp⟩
  case round =>
    obtain ⟨k, hk, rfl, hp⟩ := hrel
    have HP := Lib.hid hp
    clear hp
    by_cases hlt : k < n
    · have hkm : k < m.length := by rw [← HM.out.2]; exact hlt
      obtain ⟨b, o, a', c', rfl, hcell, hrow⟩ := HM.out.1.at k hkm
      obtain ⟨-, hl1, hl2⟩ := hrow.len
      obtain ⟨r, hr⟩ : ∃ r, r = m.getD k [] := ⟨_, rfl⟩
      rw [← hr] at hcell hrow hl1
      obtain ⟨L, hL⟩ : ∃ L, L = r.length := ⟨_, rfl⟩
      rw [← hL] at hcell hrow hl1
      have HR := Lib.hid (And.intro hkm (And.intro hr (And.intro hL hrow)))
      clear hkm hr hL hrow
      by_cases hLn : L = n
      · have HL := Lib.hid hLn
        have hLn1 : ((L : Int) != (n : Int)) = false := by simp [hLn]
        have hLn2 : L ≤ n := by omega
        have hLn3 : n ≤ L := by omega
        clear hLn
        go_wp2
        go_loop [4] (fun i => ∃ j : Nat, j ≤ n ∧ i = .int .i64 j ∧ (r.take j).all (fun x => decide (0 ≤ x ∧ x ≤ 1000000)) = true) (fun i => n - (intOf i).toNat)
        case atStart => exact ⟨0, by omega, rfl, by simp⟩
        case round =>
          obtain ⟨j, hj, rfl, hq⟩ := hrel
          have HQ := Lib.hid hq
          clear hq
          by_cases hltj : j < n
          · have hjr : j < r.length := by rw [← HR.out.2.2.1]; omega
            obtain ⟨b', o', rfl, hcell'⟩ := HR.out.2.2.2.at j hjr
            obtain ⟨x, hx⟩ : ∃ x, x = r.getD j 0 := ⟨_, rfl⟩
            rw [← hx] at hcell'
            have HX := Lib.hid (And.intro hjr hx)
            clear hjr hx
            go_wp2_with fail
            with_reducible refine (spec_l1In_any _ _ _ _).mono ?_
            rintro e w1 ⟨rfl, rfl⟩
            cases hb : (decide (0 ≤ x) && decide (x ≤ 1000000)) with
            | true =>
              have HB := Lib.hid hb
              clear hb
              go_wp2
              go_round
              case rel => exact ⟨j + 1, by omega, by go_num, all_next (p := fun x => decide (0 ≤ x ∧ x ≤ 1000000)) 0 HX.out.1 HQ.out (by rw [← HX.out.2]; have := HB.out; simp at this ⊢; omega)⟩
              case measure => simp [intOf]; omega
            | false =>
              have HB := Lib.hid hb
              clear hb
              go_wp2
              go_ret
              refine ⟨ret_bool (isMat_row HR.out.1 ?_).symm, rfl⟩
              rw [← HR.out.2.1]
              unfold rowOk
              rw [all_bad (p := fun x => decide (0 ≤ x ∧ x ≤ 1000000)) 0 HX.out.1 (by rw [← HX.out.2]; have := HB.out; simp at this ⊢; omega), Bool.and_false]
          · have hjL : j = L := by omega
            have hrow : rowOk n r = true := by
              have h1 := HQ.out
              rw [hjL, HR.out.2.2.1] at h1
              rw [rowOk_of (by rw [← HR.out.2.2.1]; exact HL.out)]
              exact all_done h1
            have HO := Lib.hid hrow
            clear hrow
            go_wp2
            go_round
            case rel => exact ⟨k + 1, by omega, by go_num, all_next [] HR.out.1 HP.out (by rw [← HR.out.2.1]; exact HO.out)⟩
            case measure => simp [intOf]; omega
      · have hLn1 : ((L : Int) != (n : Int)) = true := by simp; omega
        have HL := Lib.hid hLn
        clear hLn
        go_wp2
        go_ret
        exact ⟨ret_bool (isMat_row HR.out.1 (by rw [← HR.out.2.1]; exact rowOk_len (by rw [← HR.out.2.2.1, ← HM.out.2]; exact HL.out))).symm, rfl⟩
    · have hkn : k = n := by omega
      have h2 := HP.out
      rw [hkn, HM.out.2] at h2
      have HA := Lib.hid h2
      clear h2
      go_wp2_with fail
      with_reducible refine (spec_l1In_any _ _ _ _).mono ?_
      rintro e w1 ⟨rfl, rfl⟩
      go_wp2
      go_ret
      refine ⟨ret_bool ?_, rfl⟩
      by_cases h19 : 1 ≤ n ∧ n ≤ 9
      · rw [isMat_all (by rw [← HM.out.2]; exact h19) HA.out]; simp; omega
      · rw [isMat_size (by rw [← HM.out.2]; exact h19)]; simp; omega

set_option maxHeartbeats 2000000 in
theorem impl_IsSmall_any (v : Value) (m : List (List Int)) (w : World) (h : ReadsRows w v m) :
    Calls Tryd.prog 32 #[v] w fun e w' => e = .returned (.bool (isSm m)) ∧ w = w' := by
  have hi := impl_IsMatrix_any v m w h
  cases hm : isMat m with
  | false =>
    rw [hm] at hi
    have HI := Lib.hid hi
    have HN := Lib.hid (isSm_noMat hm)
    clear hi hm
    go_enter Tryd.func32, Tryd.ntmps32
    go_wp2_with (go_at_call 75; with_reducible refine HI.out.mono ?_; rintro e w' ⟨rfl, rfl⟩)
    go_ret
    exact ⟨ret_bool HN.out.symm, rfl⟩
  | true =>
    rw [hm] at hi
    have hM := isMat_yes hm
    have h1 := hM.pos
    have h9 := hM.le
    obtain ⟨a, c, rfl⟩ := h.slice
    obtain ⟨-, hlc, hc⟩ := h.len
    obtain ⟨n, hn⟩ : ∃ n, n = m.length := ⟨_, rfl⟩
    rw [← hn] at hlc h hM h1 h9 hi ⊢
    have HM := Lib.hid (And.intro h (And.intro hn (And.intro hM (And.intro hm hi))))
    clear h hn hM hm hi
    by_cases h4 : 4 < n
    · go_enter Tryd.func32, Tryd.ntmps32
      go_wp2_with (go_at_call 75; with_reducible refine HM.out.2.2.2.2.mono ?_; rintro e w' ⟨rfl, rfl⟩)
      go_ret
      exact ⟨ret_bool (isSm_long (by rw [← HM.out.2.1]; omega)).symm, rfl⟩
    go_enter Tryd.func32, Tryd.ntmps32
    go_wp2_with (go_at_call 75; with_reducible refine HM.out.2.2.2.2.mono ?_; rintro e w' ⟨rfl, rfl⟩)
    go_loop [17] (fun i => ∃ k : Nat, k ≤ n ∧ i = .int .i64 k ∧ (m.take k).all lowOk = true) (fun i => n - (intOf i).toNat)
    case atStart => exact ⟨0, by omega, rfl, by simp⟩
    case round =>
      obtain ⟨k, hk, rfl, hp⟩ := hrel
      have HP := Lib.hid hp
      clear hp
      by_cases hlt : k < n
      · have hkm : k < m.length := by rw [← HM.out.2.1]; exact hlt
        obtain ⟨b, o, a', c', rfl, hcell, hrow⟩ := HM.out.1.at k hkm
        rw [HM.out.2.2.1.row k hlt] at hcell hrow
        obtain ⟨r, hr⟩ : ∃ r, r = m.getD k [] := ⟨_, rfl⟩
        rw [← hr] at hrow
        have hrl : r.length = n := by rw [hr]; exact HM.out.2.2.1.row k hlt
        have HR := Lib.hid (And.intro hkm (And.intro hr (And.intro hrl hrow)))
        clear hkm hr hrl hrow
        go_wp2
        go_loop [23] (fun i => ∃ j : Nat, j ≤ n ∧ i = .int .i64 j ∧ (r.take j).all (fun x => decide (x ≤ 9)) = true) (fun i => n - (intOf i).toNat)
        case atStart => exact ⟨0, by omega, rfl, by simp⟩
        case round =>
          obtain ⟨j, hj, rfl, hq⟩ := hrel
          have HQ := Lib.hid hq
          clear hq
          by_cases hltj : j < n
          · have hjr : j < r.length := by rw [HR.out.2.2.1]; exact hltj
            obtain ⟨b', o', rfl, hcell'⟩ := HR.out.2.2.2.at j hjr
            obtain ⟨x, hx⟩ : ∃ x, x = r.getD j 0 := ⟨_, rfl⟩
            rw [← hx] at hcell'
            have HX := Lib.hid (And.intro hjr hx)
            clear hjr hx
            go_wp2
            · go_ret
              exact ⟨ret_bool (isSm_bad HR.out.1 (by rw [← HR.out.2.1]; exact lowOk_bad HX.out.1 (by rw [← HX.out.2]; assumption))).symm, rfl⟩
            · go_round
              case rel => exact ⟨j + 1, by omega, by go_num, lowOk_next HX.out.1 HQ.out (by rw [← HX.out.2]; omega)⟩
              case measure => simp [intOf]; omega
          · have hjL : j = r.length := by rw [HR.out.2.2.1]; omega
            have HO := Lib.hid (show lowOk r = true by
              have h1 := HQ.out
              rw [hjL] at h1
              exact all_done h1)
            clear hjL
            go_wp2
            go_round
            case rel => exact ⟨k + 1, by omega, by go_num, all_next [] HR.out.1 HP.out (by rw [← HR.out.2.1]; exact HO.out)⟩
            case measure => simp [intOf]; omega
      · have hkn : k = n := by omega
        have h2 := HP.out
        rw [hkn, HM.out.2.1] at h2
        have HA := Lib.hid (isSm_all HM.out.2.2.2.1 (by rw [← HM.out.2.1]; omega) h2)
        clear h2
        go_wp2
        go_ret
        exact ⟨ret_bool HA.out.symm, rfl⟩

set_option maxHeartbeats 2000000 in
theorem spec_IsSmall_any (v : Value) (m : List (List Int)) (w : World) (h : ReadsRows w v m) :
    Calls Tryd.prog 33 #[v] w fun e w' => e = .returned (.bool (isSm m)) ∧ w = w' := by
  have hi := spec_IsMatrix_any v m w h
  obtain ⟨a, c, rfl⟩ := h.slice
  obtain ⟨-, hlc, hc⟩ := h.len
  obtain ⟨n, hn⟩ : ∃ n, n = m.length := ⟨_, rfl⟩
  rw [← hn] at hlc h hi ⊢
  have HM := Lib.hid (And.intro h (And.intro hn hi))
  clear h hn hi
  go_enter Tryd.func33, Tryd.ntmps33
  go_wp2
  go_loop [3] (fun i => ∃ k : Nat, k ≤ n ∧ i = .int .i64 k ∧ (m.take k).all lowOk = true) (fun i => n - (intOf i).toNat)
  case atStart => exact ⟨0, by omega, rfl, by simp⟩
  case round =>
    obtain ⟨k, hk, rfl, hp⟩ := hrel
    have HP := Lib.hid hp
    clear hp
    by_cases hlt : k < n
    · have hkm : k < m.length := by rw [← HM.out.2.1]; exact hlt
      obtain ⟨b, o, a', c', rfl, hcell, hrow⟩ := HM.out.1.at k hkm
      obtain ⟨-, hl1, hl2⟩ := hrow.len
      obtain ⟨r, hr⟩ : ∃ r, r = m.getD k [] := ⟨_, rfl⟩
      rw [← hr] at hcell hrow hl1
      obtain ⟨L, hL⟩ : ∃ L, L = r.length := ⟨_, rfl⟩
      rw [← hL] at hcell hrow hl1
      have HR := Lib.hid (And.intro hkm (And.intro hr (And.intro hL hrow)))
      clear hkm hr hL hrow
      go_wp2
      go_loop [4] (fun i => ∃ j : Nat, j ≤ L ∧ i = .int .i64 j ∧ (r.take j).all (fun x => decide (x ≤ 9)) = true) (fun i => L - (intOf i).toNat)
      case atStart => exact ⟨0, by omega, rfl, by simp⟩
      case round =>
        obtain ⟨j, hj, rfl, hq⟩ := hrel
        have HQ := Lib.hid hq
        clear hq
        by_cases hltj : j < L
        · have hjr : j < r.length := by rw [← HR.out.2.2.1]; exact hltj
          obtain ⟨b', o', rfl, hcell'⟩ := HR.out.2.2.2.at j hjr
          obtain ⟨x, hx⟩ : ∃ x, x = r.getD j 0 := ⟨_, rfl⟩
          rw [← hx] at hcell'
          have HX := Lib.hid (And.intro hjr hx)
          clear hjr hx
          go_wp2
          · go_ret
            exact ⟨ret_bool (isSm_bad HR.out.1 (by rw [← HR.out.2.1]; exact lowOk_bad HX.out.1 (by rw [← HX.out.2]; assumption))).symm, rfl⟩
          · go_round
            case rel => exact ⟨j + 1, by omega, by go_num, lowOk_next HX.out.1 HQ.out (by rw [← HX.out.2]; omega)⟩
            case measure => simp [intOf]; omega
        · have hjL : j = r.length := by rw [← HR.out.2.2.1]; omega
          have HO := Lib.hid (show lowOk r = true by
            have h1 := HQ.out
            rw [hjL] at h1
            exact all_done h1)
          clear hjL
          go_wp2
          go_round
          case rel => exact ⟨k + 1, by omega, by go_num, all_next [] HR.out.1 HP.out (by rw [← HR.out.2.1]; exact HO.out)⟩
          case measure => simp [intOf]; omega
    · have hkn : k = n := by omega
      have h2 := HP.out
      rw [hkn, HM.out.2.1] at h2
      have h3 := isSm_of h2
      rw [← HM.out.2.1] at h3
      have H3 := Lib.hid h3
      clear h2 h3
      go_wp2_with fail
      with_reducible refine HM.out.2.2.mono ?_
      rintro e w' ⟨rfl, rfl⟩
      cases hm : isMat m with
      | false =>
        have H4 := Lib.hid (show isSm m = false by rw [H3.out, hm]; rfl)
        clear hm
        go_wp2
        go_ret
        exact ⟨ret_bool H4.out.symm, rfl⟩
      | true =>
        have H4 := Lib.hid (show isSm m = decide (n ≤ 4) by rw [H3.out, hm]; rfl)
        clear hm
        go_wp2
        go_ret
        exact ⟨ret_bool (by rw [H4.out]; simp; omega), rfl⟩

set_option maxHeartbeats 1000000 in
theorem impl_total_any (v : Value) (xs : List Int) (w : World) (h : ReadsI w v xs) (hl : xs.length ≤ 1000) (hb : ∀ j, 0 ≤ xs.getD j 0 ∧ xs.getD j 0 ≤ 1000000) :
    Calls Tryd.prog 80 #[v] w fun e w' => e = .returned (.int .i64 xs.sum) ∧ w = w' := by
  obtain ⟨a, c, rfl⟩ := h.slice
  obtain ⟨n, hn⟩ : ∃ n, n = xs.length := ⟨_, rfl⟩
  rw [← hn] at h hl ⊢
  have HM := Lib.hid (And.intro h (And.intro hn hb))
  clear h hn hb
  go_enter Tryd.func80, Tryd.ntmps80
  go_wp2
  go_loop [3, 8] (fun v i => ∃ k : Nat, k ≤ n ∧ i = .int .i64 k ∧ v = .int .i64 (xs.take k).sum) (fun _ i => n - (intOf i).toNat)
  case atStart => exact ⟨0, by omega, rfl, by simp⟩
  case round =>
    obtain ⟨k, hk, rfl, rfl⟩ := hrel
    by_cases hlt : k < n
    · have hkm : k < xs.length := by rw [← HM.out.2.1]; exact hlt
      obtain ⟨b, o, rfl, hcell⟩ := HM.out.1.at k hkm
      have hs := sum_take_succ xs k hkm
      obtain ⟨hb1, hb2⟩ := sum_take_pos xs 1000000 (by omega) HM.out.2.2 k
      obtain ⟨hy1, hy2⟩ := HM.out.2.2 k
      obtain ⟨y, hy⟩ : ∃ y, y = xs.getD k 0 := ⟨_, rfl⟩
      obtain ⟨s, hss⟩ : ∃ s, s = (xs.take k).sum := ⟨_, rfl⟩
      rw [← hy] at hcell hs hy1 hy2
      rw [← hss] at hs hb1 hb2 ⊢
      have hb3 : s ≤ 1000000000 := by omega
      have HS := Lib.hid hs
      clear hs hy hss hb2
      go_wp2
      go_round
      case rel => exact ⟨k + 1, by omega, by go_num, by rw [HS.out]⟩
      case measure => simp [intOf]; omega
    · have hkn : k = n := by omega
      have e : xs.take k = xs := by rw [hkn, HM.out.2.1]; exact List.take_length
      rw [e]
      clear e
      go_wp2
      go_ret
      exact ⟨rfl, rfl⟩
end Go.Proofs.YtngbibaphakifaaDoor

/- Contracts: the determinant of a table, by the reference. -/
import Derived.Test.YtdngkfedkgiioaaDoorDetD
namespace Go.Proofs.YtdngkfedkgiioaaDoor
open Go.RowKit Go.Mx

/-- a table that can be read, wherever it lies -/
def RowsJ (t : List (List Int)) (u : Value) (w : World) : Prop := ReadsRows w u t
theorem RowsJ.ok (t : List (List Int)) : ∀ u w w', Ext w w' → RowsJ t u w → RowsJ t u w' := fun _ _ _ hx h => ReadsRows.ext h hx

set_option maxRecDepth 100000 in
set_option maxHeartbeats 2000000 in
theorem spec_l7Det_any : ∀ (n : Nat) (t : List (List Int)) (v : Value) (w : World), Sq n 10000 t → n ≤ 4 → ReadsRows w v t →
    Calls Tryd.prog 56 #[v] w fun e w' => e = .returned (.int .i64 (detL n t)) ∧ Ext w w'
  | 0, t, v, w, hs, _, h => by
    obtain ⟨a, c, rfl⟩ := h.slice
    rw [hs.len]
    go_enter Tryd.func56, Tryd.ntmps56
    go_wp2
    go_ret
    exact ⟨rfl, Ext.refl _⟩
  | n + 1, t, v, w, hs, hn, h => by
    have IH := fun t v w => spec_l7Det_any n t v w
    obtain ⟨a, c, rfl⟩ := h.slice
    rw [hs.len]
    have hlen := h.len
    obtain ⟨-, hlc, hc⟩ := hlen
    rw [hs.len] at hlc h
    have hN0 : (((n + 1 : Nat) : Int) == 0) = false := by simp; omega
    obtain ⟨b, o, a0, c0, rfl, hcell0, hrow0⟩ := h.at 0 (by rw [hs.len]; omega)
    rw [Nat.add_zero] at hcell0
    rw [hs.row 0 (by omega)] at hcell0 hrow0
    obtain ⟨N, hN⟩ : ∃ N, N = n + 1 := ⟨_, rfl⟩
    obtain ⟨-, hlc0, hc0⟩ := hrow0.len
    have hst := fun j (hj : j < n + 1) => det_step_bd hs (by omega) j hj
    have hwo := fun w' (hx : Ext w w') j (hj : j < n + 1) => spec_l7Minor_any _ t (n + 1) j w' (h.ext hx) hs.len (by omega) (by omega) hs.row hj
    have hdet := fun j (hj : j < n + 1) u w' => IH (minor t j) u w' (hs.minor j hj) (by omega)
    rw [← detTo_all]
    rw [← hN] at h hlc hcell0 hrow0 hN0 hlc0 hst hwo hdet ⊢
    have HM := Lib.hid (And.intro h (And.intro hN (And.intro hst (And.intro hwo (And.intro hdet hrow0)))))
    have hN5 : N ≤ 4 := by omega
    have hN1 : 1 ≤ N := by omega
    have HC := Lib.hid hcell0
    clear h hN hst hwo hdet hrow0 hs IH hn hcell0
    go_enter Tryd.func56, Tryd.ntmps56
    go_wp2
    go_loopw [3, 4, 5] (fun s g i wr => ∃ j : Nat, j ≤ N ∧ i = .int .i64 j ∧ s = .int .i64 (detTo n t j) ∧ g = .int .i64 (sgn j) ∧ Ext w wr) (fun _ _ i _ => N - (intOf i).toNat)
    case atStart => exact ⟨0, by omega, rfl, rfl, rfl, Ext.refl _⟩
    case round =>
      obtain ⟨j, hj, rfl, rfl, rfl, hx⟩ := hrel
      by_cases hlt : j < N
      · have hcell0 := hx.cell_some HC.out
        obtain ⟨b', o', rfl, hcell⟩ := (HM.out.2.2.2.2.2.ext hx).at j (by have := HM.out.2.2.2.2.2.len.1; omega)
        obtain ⟨⟨h1l, h1h⟩, ⟨h2l, h2h⟩, ⟨h3l, h3h⟩⟩ := HM.out.2.2.1 j hlt
        have hwo := HM.out.2.2.2.1 wr hx j hlt
        have hdet := HM.out.2.2.2.2.1 j hlt
        have hsucc := detTo_succ n t j
        have hzero := detTo_zero_step (n := n) (t := t) (k := j)
        have hsg := sgn_succ j
        obtain ⟨hg1, hg2⟩ : -1 ≤ sgn j ∧ sgn j ≤ 1 := by rcases sgn_or j with h | h <;> omega
        obtain ⟨x, hxx⟩ : ∃ x, x = (t.getD 0 []).getD j 0 := ⟨_, rfl⟩
        obtain ⟨d, hd⟩ : ∃ d, d = detL n (minor t j) := ⟨_, rfl⟩
        obtain ⟨s, hs⟩ : ∃ s, s = detTo n t j := ⟨_, rfl⟩
        obtain ⟨g, hg⟩ : ∃ g, g = sgn j := ⟨_, rfl⟩
        rw [← hxx] at hcell h1l h1h h2l h2h hsucc hzero
        rw [← hd] at h2l h2h hdet hsucc
        rw [← hs] at h3l h3h hsucc hzero ⊢
        rw [← hg] at h1l h1h h2l h2h hsucc hsg hg1 hg2 ⊢
        have HS := Lib.hid (And.intro hwo (And.intro hdet (And.intro hsucc (And.intro hzero hsg))))
        clear hwo hdet hsucc hzero hsg hxx hd hs hg
        by_cases hx0 : x = 0
        · subst hx0
          go_wp2
          go_roundw
          case rel => exact ⟨j + 1, by omega, by go_num, by rw [HS.out.2.2.2.1 rfl], by rw [HS.out.2.2.2.2], hx⟩
          case measure => simp [intOf]; omega
        · have hxb : (x != 0) = true := by simpa using hx0
          have hb1 : -9223372036854775808 ≤ s + g * x * d := by omega
          have hb2 : s + g * x * d ≤ 9223372036854775807 := by omega
          clear hx0
          go_wp2
          refine wp_region_inv (by kernel_rfl) (.known ?hx2_6_v0 :: .known ?hx2_6_v1 :: .known ?hx2_6_v2 :: .known ?hx2_6_v3 :: .known ?hx2_6_v4 :: .known ?hx2_6_v5 :: .known ?hx2_6_v6 :: .known ?hx2_6_v7 :: .known ?hx2_6_v8 :: .known ?hx2_6_v9 :: .known ?hx2_6_v10 :: .such (RowsJ (minor t j)) (RowsJ.ok _) :: .known (.int .i64 d) :: .known ?hx2_6_v13 :: .known ?hx2_6_v14 :: .known ?hx2_6_v15 :: []) rfl (by kernel_rfl) ?hx2_6_s ?hx2_6_p
          case hx2_6_s =>
            intro vs
            refine ⟨fun w' hxw hj => ?_, fun w' hxw hj => ?_, fun w' hxw hj => ?_, fun w' hxw hj => ?_, fun w' hxw hj => ?_, fun w' hxw hj => ?_, fun w' hxw hj => ?_, fun w' hxw hj => ?_, fun w' hxw hj => ?_, fun w' hxw hj => ?_, fun w' hxw hj => ?_, fun w' hxw hj => ?_, fun w' hxw hj => ?_, fun w' hxw hj => ?_, fun w' hxw hj => ?_, fun w' hxw hj => ?_, trivial⟩
            · have hcell0 := Ext.cell_some hxw hcell0
              have hcell := Ext.cell_some hxw hcell
              clear hj
              go_simp
              try go_bits
              first | rfl | (rw [if_pos (by omega), if_pos (by omega)]; go_simp; rfl) | (rw [if_pos (by omega)]; go_simp; rfl) | skip
            · have hcell0 := Ext.cell_some hxw hcell0
              have hcell := Ext.cell_some hxw hcell
              clear hj
              go_simp
              try go_bits
              first | rfl | (rw [if_pos (by omega), if_pos (by omega)]; go_simp; rfl) | (rw [if_pos (by omega)]; go_simp; rfl) | skip
            · have hcell0 := Ext.cell_some hxw hcell0
              have hcell := Ext.cell_some hxw hcell
              clear hj
              go_simp
              try go_bits
              first | rfl | (rw [if_pos (by omega), if_pos (by omega)]; go_simp; rfl) | (rw [if_pos (by omega)]; go_simp; rfl) | skip
            · have hcell0 := Ext.cell_some hxw hcell0
              have hcell := Ext.cell_some hxw hcell
              clear hj
              go_simp
              try go_bits
              first | rfl | (rw [if_pos (by omega), if_pos (by omega)]; go_simp; rfl) | (rw [if_pos (by omega)]; go_simp; rfl) | skip
            · have hcell0 := Ext.cell_some hxw hcell0
              have hcell := Ext.cell_some hxw hcell
              clear hj
              go_simp
              try go_bits
              first | rfl | (rw [if_pos (by omega), if_pos (by omega)]; go_simp; rfl) | (rw [if_pos (by omega)]; go_simp; rfl) | skip
            · have hcell0 := Ext.cell_some hxw hcell0
              have hcell := Ext.cell_some hxw hcell
              clear hj
              go_simp
              try go_bits
              first | rfl | (rw [if_pos (by omega), if_pos (by omega)]; go_simp; rfl) | (rw [if_pos (by omega)]; go_simp; rfl) | skip
            · have hcell0 := Ext.cell_some hxw hcell0
              have hcell := Ext.cell_some hxw hcell
              clear hj
              go_simp
              try go_bits
              first | rfl | (rw [if_pos (by omega), if_pos (by omega)]; go_simp; rfl) | (rw [if_pos (by omega)]; go_simp; rfl) | skip
            · have hcell0 := Ext.cell_some hxw hcell0
              have hcell := Ext.cell_some hxw hcell
              clear hj
              go_simp
              try go_bits
              first | rfl | (rw [if_pos (by omega), if_pos (by omega)]; go_simp; rfl) | (rw [if_pos (by omega)]; go_simp; rfl) | skip
            · have hcell0 := Ext.cell_some hxw hcell0
              have hcell := Ext.cell_some hxw hcell
              clear hj
              go_simp
              try go_bits
              first | rfl | (rw [if_pos (by omega), if_pos (by omega)]; go_simp; rfl) | (rw [if_pos (by omega)]; go_simp; rfl) | skip
            · have hcell0 := Ext.cell_some hxw hcell0
              have hcell := Ext.cell_some hxw hcell
              clear hj
              go_simp
              try go_bits
              first | rfl | (rw [if_pos (by omega), if_pos (by omega)]; go_simp; rfl) | (rw [if_pos (by omega)]; go_simp; rfl) | skip
            · have hcell0 := Ext.cell_some hxw hcell0
              have hcell := Ext.cell_some hxw hcell
              clear hj
              go_simp
              try go_bits
              first | rfl | (rw [if_pos (by omega), if_pos (by omega)]; go_simp; rfl) | (rw [if_pos (by omega)]; go_simp; rfl) | skip
            · have hcell0 := Ext.cell_some hxw hcell0
              have hcell := Ext.cell_some hxw hcell
              clear hj
              go_simp
              try go_bits
              exact (HM.out.2.2.2.1 _ (hx.trans hxw) j hlt).mono fun _ _ ⟨u, h1, h2, h3⟩ => ⟨u, h1, h3, h2⟩
            · have hcell0 := Ext.cell_some hxw hcell0
              have hcell := Ext.cell_some hxw hcell
              have h11 := hj 11 (by kernel_rfl)
              clear hj
              go_simp
              try go_bits
              exact (HS.out.2.1 _ _ h11).mono fun _ _ ⟨h1, h2⟩ => ⟨h1, h2⟩
            · have hcell0 := Ext.cell_some hxw hcell0
              have hcell := Ext.cell_some hxw hcell
              clear hj
              go_simp
              try go_bits
              first | rfl | (rw [if_pos (by omega), if_pos (by omega)]; go_simp; rfl) | (rw [if_pos (by omega)]; go_simp; rfl) | skip
            · have hcell0 := Ext.cell_some hxw hcell0
              have hcell := Ext.cell_some hxw hcell
              clear hj
              go_simp
              try go_bits
              first | rfl | (rw [if_pos (by omega), if_pos (by omega)]; go_simp; rfl) | (rw [if_pos (by omega)]; go_simp; rfl) | skip
            · have hcell0 := Ext.cell_some hxw hcell0
              have hcell := Ext.cell_some hxw hcell
              clear hj
              go_simp
              try go_bits
              first | rfl | (rw [if_pos (by omega), if_pos (by omega)]; go_simp; rfl) | (rw [if_pos (by omega)]; go_simp; rfl) | skip
          case' hx2_6_p =>
            intro vs w2 hx2 hk
            have k11 : (RowsJ (minor t j)) (vs 11) w2 := hk 11 _ rfl
            clear hk
            replace hcell0 := Ext.cell_some hx2 hcell0
            replace hcell := Ext.cell_some hx2 hcell
            replace hx := Ext.trans hx hx2
            go_simp
            clear k11
            go_wp2
            go_roundw
            case rel => exact ⟨j + 1, by omega, by go_num, by rw [HS.out.2.2.1], by rw [HS.out.2.2.2.2], hx⟩
            case measure => simp [intOf]; omega
      · have hjN : j = N := by omega
        subst hjN
        clear HC
        go_wp2
        go_ret
        first | exact ⟨rfl, hx⟩ | exact ⟨by rw [HM.out.2.1]; rfl, hx⟩

set_option maxHeartbeats 2000000 in
theorem spec_DeterminantOf_any (v : Value) (t : List (List Int)) (w : World) (h : ReadsRows w v t) :
    Calls Tryd.prog 11 #[v] w fun e w' => e = .returned (.tuple #[.int .i64 (detV t), .bool (sqOk t)]) ∧ Ext w w' := by
  have hD := fun (hm : sqOk t = true) => spec_l7Det_any t.length t v w (sqOk_yes hm).1 (sqOk_yes hm).2 h
  have HN := Lib.hid (And.intro hD (And.intro (detV_no (t := t)) (detV_yes (t := t))))
  clear hD
  obtain ⟨a, c, rfl⟩ := h.slice
  obtain ⟨-, hlc, hc⟩ := h.len
  obtain ⟨n, hn⟩ : ∃ n, n = t.length := ⟨_, rfl⟩
  rw [← hn] at hlc h HN ⊢
  have HM := Lib.hid (And.intro h hn)
  clear h hn
  go_enter Tryd.func11, Tryd.ntmps11
  go_wp2
  go_loop [4] (fun i => ∃ k : Nat, k ≤ n ∧ i = .int .i64 k ∧ (t.take k).all (sqRow n) = true) (fun i => n - (intOf i).toNat)
  case atStart => exact ⟨0, by omega, rfl, by simp⟩
  case round =>
    obtain ⟨k, hk, rfl, hp⟩ := hrel
    have HP := Lib.hid hp
    clear hp
    by_cases hlt : k < n
    · have hkm : k < t.length := by rw [← HM.out.2]; exact hlt
      obtain ⟨b, o, a', c', rfl, hcell, hrow⟩ := HM.out.1.at k hkm
      obtain ⟨-, hl1, hl2⟩ := hrow.len
      obtain ⟨r, hr⟩ : ∃ r, r = t.getD k [] := ⟨_, rfl⟩
      rw [← hr] at hcell hrow hl1
      obtain ⟨L, hL⟩ : ∃ L, L = r.length := ⟨_, rfl⟩
      rw [← hL] at hcell hrow hl1
      have HR := Lib.hid (And.intro hkm (And.intro hr (And.intro hL hrow)))
      clear hkm hr hL hrow
      by_cases hLn : L = n
      · have HL := Lib.hid hLn
        have hLn1 : ((L : Int) != (n : Int)) = false := by simp [hLn]
        have hLn2 : L ≤ n := by omega
        have hLn3 : n ≤ L := by omega
        clear hLn
        go_wp2
        go_loop [5] (fun i => ∃ j : Nat, j ≤ n ∧ i = .int .i64 j ∧ (r.take j).all (fun x => decide (-10000 ≤ x ∧ x ≤ 10000)) = true) (fun i => n - (intOf i).toNat)
        case atStart => exact ⟨0, by omega, rfl, by simp⟩
        case round =>
          obtain ⟨j, hj, rfl, hq⟩ := hrel
          have HQ := Lib.hid hq
          clear hq
          by_cases hltj : j < n
          · have hjr : j < r.length := by rw [← HR.out.2.2.1]; omega
            obtain ⟨b', o', rfl, hcell'⟩ := HR.out.2.2.2.at j hjr
            obtain ⟨x, hx⟩ : ∃ x, x = r.getD j 0 := ⟨_, rfl⟩
            rw [← hx] at hcell'
            have HX := Lib.hid (And.intro hjr hx)
            clear hjr hx
            go_wp2_with fail
            with_reducible refine (spec_l1In_any _ _ _ _).mono ?_
            rintro e w1 ⟨rfl, rfl⟩
            cases hb : (decide (-10000 ≤ x) && decide (x ≤ 10000)) with
            | true =>
              have HB := Lib.hid hb
              clear hb
              go_wp2
              go_round
              case rel => exact ⟨j + 1, by omega, by go_num, all_next (p := fun x => decide (-10000 ≤ x ∧ x ≤ 10000)) 0 HX.out.1 HQ.out (by rw [← HX.out.2]; have := HB.out; simp at this ⊢; omega)⟩
              case measure => simp [intOf]; omega
            | false =>
              have HB := Lib.hid hb
              clear hb
              have hno : sqOk t = false := sqOk_row HR.out.1 (by rw [← HR.out.2.1]; exact sqRow_bad HX.out.1 (by rw [← HX.out.2]; have := HB.out; simp at this ⊢; omega))
              have HO := Lib.hid (And.intro (HN.out.2.1 hno) hno)
              clear hno
              go_wp2
              go_ret2
              exact ⟨by rw [HO.out.1, HO.out.2]; rfl, Ext.refl _⟩
          · have hjL : j = L := by omega
            have hrow : sqRow n r = true := by
              have h1 := HQ.out
              rw [hjL, HR.out.2.2.1] at h1
              rw [sqRow_of (by rw [← HR.out.2.2.1]; exact HL.out)]
              exact all_done h1
            have HO := Lib.hid hrow
            clear hrow
            go_wp2
            go_round
            case rel => exact ⟨k + 1, by omega, by go_num, all_next [] HR.out.1 HP.out (by rw [← HR.out.2.1]; exact HO.out)⟩
            case measure => simp [intOf]; omega
      · have hLn1 : ((L : Int) != (n : Int)) = true := by simp; omega
        have hno : sqOk t = false := sqOk_row HR.out.1 (by rw [← HR.out.2.1]; exact sqRow_len (by rw [← HR.out.2.2.1, ← HM.out.2]; exact hLn))
        have HO := Lib.hid (And.intro (HN.out.2.1 hno) hno)
        clear hLn hno
        go_wp2
        go_ret2
        exact ⟨by rw [HO.out.1, HO.out.2]; rfl, Ext.refl _⟩
    · have hkn : k = n := by omega
      have h2 := HP.out
      rw [hkn, HM.out.2] at h2
      have ha := sqOk_all h2
      clear h2
      by_cases h4 : n ≤ 4
      · rw [← HM.out.2, decide_eq_true h4] at ha
        have HD := Lib.hid (HN.out.1 ha)
        have HO := Lib.hid (And.intro (HN.out.2.2 ha) ha)
        clear ha
        go_wp2_with fail
        with_reducible refine HD.out.mono ?_
        rintro e w1 ⟨rfl, hx⟩
        go_wp2
        go_ret2
        exact ⟨by rw [HO.out.1, HO.out.2]; rfl, hx⟩
      · rw [← HM.out.2, decide_eq_false h4] at ha
        have HO := Lib.hid (And.intro (HN.out.2.1 ha) ha)
        clear ha
        go_wp2
        go_ret2
        exact ⟨by rw [HO.out.1, HO.out.2]; rfl, Ext.refl _⟩

set_option maxHeartbeats 1000000 in
theorem spec_IsRootless_any (v : Value) (t : List (List Int)) (w : World) (h : ReadsRows w v t) :
    Calls Tryd.prog 24 #[v] w fun e w' => e = .returned (.bool (isSm t && decide (detL t.length t ≠ 0))) ∧ Ext w w' := by
  have hi := spec_IsSmall_any v t w h
  cases hm : isSm t with
  | false =>
    rw [hm] at hi
    have HI := Lib.hid hi
    clear hi hm
    go_enter Tryd.func24, Tryd.ntmps24
    go_wp2_with fail
    with_reducible refine HI.out.mono ?_
    rintro e w1 ⟨rfl, rfl⟩
    go_wp2
    go_ret
    exact ⟨rfl, Ext.refl _⟩
  | true =>
    rw [hm] at hi
    have hd := spec_l7Det_any t.length t v w (isSm_sq hm).1 (isSm_sq hm).2 h
    have HI := Lib.hid (And.intro hi hd)
    clear hi hm hd
    go_enter Tryd.func24, Tryd.ntmps24
    go_wp2_with fail
    with_reducible refine HI.out.1.mono ?_
    rintro e w1 ⟨rfl, rfl⟩
    go_wp2_with fail
    with_reducible refine HI.out.2.mono ?_
    rintro e w1 ⟨rfl, hx⟩
    go_wp2
    go_ret
    exact ⟨ret_bool (by rw [Bool.eq_iff_iff]; simp), hx⟩
end Go.Proofs.YtdngkfedkgiioaaDoor

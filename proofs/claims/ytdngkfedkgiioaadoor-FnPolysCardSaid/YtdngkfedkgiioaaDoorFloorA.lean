/- Contracts: the growth in parts of a number, by the program and by the reference. -/
import Derived.Test.YtdngkfedkgiioaaDoorLessB
namespace Go.Proofs.YtdngkfedkgiioaaDoor
open Go.RowKit Go.Mx

set_option maxHeartbeats 2000000 in
theorem spec_IsBelow_any (v : Value) (m : List (List Int)) (q d : Int) (w : World) (h : ReadsRows w v m) :
    Calls Tryd.prog 37 #[v, .int .i64 q, .int .i64 d] w fun e w' => e = .returned (.bool (below? m q d)) ∧ Ext w w' := by
  have hs := spec_IsSmall_any v m w h
  cases hsm : isSm m with
  | false =>
    rw [hsm] at hs
    have HI := Lib.hid (And.intro hs (show below? m q d = false by unfold below?; rw [hsm]; rfl))
    clear hs hsm
    go_enter Tryd.func37, Tryd.ntmps37
    go_wp2_with (go_at_call 22; with_reducible refine HI.out.1.mono ?_; rintro e w' ⟨rfl, rfl⟩)
    go_ret
    exact ⟨ret_bool HI.out.2.symm, Ext.refl _⟩
  | true =>
    rw [hsm] at hs
    by_cases hq : 0 ≤ q ∧ q ≤ 3600
    · have hqi := spec_l1In_yes q 0 3600 w hq.1 hq.2
      by_cases hd : 1 ≤ d ∧ d ≤ 100
      · have hb := spec_l8Below_any v m m.length q d w h (isSm_IsS hsm) (by omega) (by omega)
        have hdi := spec_l1In_yes d 1 100 w hd.1 hd.2
        have HI := Lib.hid (And.intro hs (And.intro (show below? m q d = belowB m q d by unfold below?; rw [hsm, decide_eq_true hq, decide_eq_true hd]; rfl) (And.intro hb (And.intro hqi hdi))))
        clear hs hsm hb hqi hdi hq hd
        go_enter Tryd.func37, Tryd.ntmps37
        go_wp2_with (first | (go_at_call 22; with_reducible refine HI.out.1.mono ?_; rintro e w' ⟨rfl, rfl⟩) | (go_at_call 55; with_reducible refine HI.out.2.2.2.1.mono ?_; rintro e w' ⟨rfl, rfl⟩) | (go_at_call 55; with_reducible refine HI.out.2.2.2.2.mono ?_; rintro e w' ⟨rfl, rfl⟩) | (go_at_call 72; with_reducible refine HI.out.2.2.1.mono ?_; rintro e w1 ⟨rfl, hx⟩))
        go_ret
        exact ⟨ret_bool HI.out.2.1.symm, hx⟩
      · have hdi := spec_l1In_no d 1 100 w (by omega)
        have HI := Lib.hid (And.intro hs (And.intro (show below? m q d = false by unfold below?; rw [hsm, decide_eq_true hq, decide_eq_false hd]; rfl) (And.intro hqi hdi)))
        clear hs hsm hqi hdi hq hd
        go_enter Tryd.func37, Tryd.ntmps37
        go_wp2_with (first | (go_at_call 22; with_reducible refine HI.out.1.mono ?_; rintro e w' ⟨rfl, rfl⟩) | (go_at_call 55; with_reducible refine HI.out.2.2.1.mono ?_; rintro e w' ⟨rfl, rfl⟩) | (go_at_call 55; with_reducible refine HI.out.2.2.2.mono ?_; rintro e w' ⟨rfl, rfl⟩))
        go_ret
        exact ⟨ret_bool HI.out.2.1.symm, Ext.refl _⟩
    · have hqi := spec_l1In_no q 0 3600 w (by omega)
      have HI := Lib.hid (And.intro hs (And.intro (show below? m q d = false by unfold below?; rw [hsm, decide_eq_false hq]; rfl) hqi))
      clear hs hsm hqi hq
      go_enter Tryd.func37, Tryd.ntmps37
      go_wp2_with (first | (go_at_call 22; with_reducible refine HI.out.1.mono ?_; rintro e w' ⟨rfl, rfl⟩) | (go_at_call 55; with_reducible refine HI.out.2.2.mono ?_; rintro e w' ⟨rfl, rfl⟩))
      go_ret
      exact ⟨ret_bool HI.out.2.1.symm, Ext.refl _⟩

def floorV (m : List (List Int)) (d : Int) : Int := if isSm m = true ∧ 1 ≤ d ∧ d ≤ 100 then floorG m d else -1
theorem floorV_no {m : List (List Int)} {d : Int} (h : isSm m = false) : floorV m d = -1 := if_neg (by simp [h])
theorem floorV_far {m : List (List Int)} {d : Int} (h : d < 1 ∨ 100 < d) : floorV m d = -1 := if_neg (by rintro ⟨_, h1, h2⟩; omega)
theorem floorV_yes {m : List (List Int)} {d : Int} (h : isSm m = true) (h1 : 1 ≤ d) (h2 : d ≤ 100) : floorV m d = floorG m d := if_pos ⟨h, h1, h2⟩

set_option maxHeartbeats 2000000 in
theorem impl_FloorOfGrowth_any (v : Value) (m : List (List Int)) (d : Int) (w : World) (h : ReadsRows w v m) :
    Calls Tryd.prog 30 #[v, .int .i64 d] w fun e w' => e = .returned (.int .i64 (floorV m d)) ∧ Ext w w' := by
  have hs := impl_IsSmall_any v m w h
  cases hsm : isSm m with
  | false =>
    rw [hsm] at hs
    have HI := Lib.hid (And.intro hs (floorV_no (d := d) hsm))
    clear hs hsm
    go_enter Tryd.func30, Tryd.ntmps30
    go_wp2_with (go_at_call 21; with_reducible refine HI.out.1.mono ?_; rintro e w' ⟨rfl, rfl⟩)
    go_ret
    exact ⟨by rw [HI.out.2]; rfl, Ext.refl _⟩
  | true =>
    rw [hsm] at hs
    by_cases hd0 : d < 1
    · have HI := Lib.hid (And.intro hs (floorV_far (m := m) (.inl hd0)))
      clear hs hsm
      go_enter Tryd.func30, Tryd.ntmps30
      go_wp2_with (go_at_call 21; with_reducible refine HI.out.1.mono ?_; rintro e w' ⟨rfl, rfl⟩)
      go_ret
      exact ⟨by rw [HI.out.2]; rfl, Ext.refl _⟩
    by_cases hd100 : 100 < d
    · have HI := Lib.hid (And.intro hs (floorV_far (m := m) (.inr hd100)))
      clear hs hsm
      go_enter Tryd.func30, Tryd.ntmps30
      go_wp2_with (go_at_call 21; with_reducible refine HI.out.1.mono ?_; rintro e w' ⟨rfl, rfl⟩)
      go_ret
      exact ⟨by rw [HI.out.2]; rfl, Ext.refl _⟩
    · skip
      have hb := fun w' (hx : Ext w w') (q : Int) (hq : 0 ≤ q ∧ q ≤ 4000) => impl_isBelow_any v m m.length q d w' (h.ext hx) (isSm_IsS hsm) hq (by omega)
      have hfl : floorV m d = halve (fun q => belowB m q d) 4000 0 (36 * d + 1) := floorV_yes hsm (by omega) (by omega)
      have hstep := fun lo hi => halve_step (f := fun q => belowB m q d) (low := lo) (high := hi)
      have hdone := fun lo hi => halve_done (f := fun q => belowB m q d) (low := lo) (high := hi)
      obtain ⟨D, hD⟩ : ∃ D : Nat, 36 * d + 1 = (D : Int) := ⟨(36 * d + 1).toNat, by omega⟩
      have hd1 : 1 ≤ d := by omega
      have hd2 : d ≤ 100 := by omega
      have hD2 : D ≤ 3601 := by omega
      have hD1 : 1 ≤ D := by omega
      rw [hD] at hfl
      have HI := Lib.hid (And.intro hs (And.intro hb (And.intro hfl (And.intro hstep (And.intro hdone True.intro)))))
      clear hs hsm hb hfl hstep hdone h
      go_enter Tryd.func30, Tryd.ntmps30
      go_wp2_with (first | (go_at_call 21; with_reducible refine HI.out.1.mono ?_; rintro e w' ⟨rfl, rfl⟩) )
      go_loopw [5, 6] (fun l u wr => ∃ lo hi : Nat, l = .int .i64 lo ∧ u = .int .i64 hi ∧ lo < hi ∧ hi ≤ 3601 ∧ halve (fun q => belowB m q d) 4000 lo hi = floorV m d ∧ Ext w wr) (fun l u _ => (intOf u - intOf l).toNat)
      case atStart => exact ⟨0, D, rfl, by go_num, by omega, hD2, HI.out.2.2.1.symm, Ext.refl _⟩
      case round =>
        clear hD
        obtain ⟨lo, hi, rfl, rfl, hlh, hh, hp, hx⟩ := hrel
        by_cases hgt : lo + 1 < hi
        · obtain ⟨Q, hQ⟩ : ∃ Q : Nat, ((lo : Int) + (hi : Int)) / 2 = (Q : Int) := ⟨(((lo : Int) + (hi : Int)) / 2).toNat, by omega⟩
          have hQ1 : lo < Q := by omega
          have hQ2 : Q < hi := by omega
          have hst := HI.out.2.2.2.1 lo hi (by omega) (by omega)
          rw [hp, hQ] at hst
          have hbl := HI.out.2.1 wr hx Q (by omega)
          cases hbb : belowB m Q d with
          | true =>
            simp only [hbb, if_true] at hst
            rw [hbb] at hbl
            have HK := Lib.hid (And.intro hbl hst)
            clear hbl hst hbb hp
            go_wp2_with fail
            with_reducible refine HK.out.1.mono ?_
            rintro e w1 ⟨rfl, hx1⟩
            go_wp2
            go_roundw
            case rel => exact ⟨lo, Q, rfl, rfl, hQ1, by omega, HK.out.2.symm, hx.trans hx1⟩
            case measure => simp [intOf]; omega
          | false =>
            simp only [hbb, if_false, Bool.false_eq_true] at hst
            rw [hbb] at hbl
            have HK := Lib.hid (And.intro hbl hst)
            clear hbl hst hbb hp
            go_wp2_with fail
            with_reducible refine HK.out.1.mono ?_
            rintro e w1 ⟨rfl, hx1⟩
            go_wp2
            go_roundw
            case rel => exact ⟨Q, hi, rfl, rfl, hQ2, hh, HK.out.2.symm, hx.trans hx1⟩
            case measure => simp [intOf]; omega
        · have hst := HI.out.2.2.2.2.1 lo hi (by omega) 4000
          rw [hp] at hst
          have HK := Lib.hid hst
          clear hst hp
          go_wp2
          go_ret
          exact ⟨by rw [HK.out]; rfl, hx⟩

set_option maxHeartbeats 2000000 in
theorem spec_FloorOfGrowth_any (v : Value) (m : List (List Int)) (d : Int) (w : World) (h : ReadsRows w v m) :
    Calls Tryd.prog 35 #[v, .int .i64 d] w fun e w' => e = .returned (.int .i64 (floorV m d)) ∧ Ext w w' := by
  have hs := spec_IsSmall_any v m w h
  cases hsm : isSm m with
  | false =>
    rw [hsm] at hs
    have HI := Lib.hid (And.intro hs (floorV_no (d := d) hsm))
    clear hs hsm
    go_enter Tryd.func35, Tryd.ntmps35
    go_wp2_with (go_at_call 22; with_reducible refine HI.out.1.mono ?_; rintro e w' ⟨rfl, rfl⟩)
    go_ret
    exact ⟨by rw [HI.out.2]; rfl, Ext.refl _⟩
  | true =>
    rw [hsm] at hs
    by_cases hd0 : d < 1 ∨ 100 < d
    · have HI := Lib.hid (And.intro hs (And.intro (floorV_far (m := m) hd0) (spec_l1In_no d 1 100 w hd0)))
      clear hs hsm hd0
      go_enter Tryd.func35, Tryd.ntmps35
      go_wp2_with (first | (go_at_call 22; with_reducible refine HI.out.1.mono ?_; rintro e w' ⟨rfl, rfl⟩) | (go_at_call 55; with_reducible refine HI.out.2.2.mono ?_; rintro e w' ⟨rfl, rfl⟩))
      go_ret
      exact ⟨by rw [HI.out.2.1]; rfl, Ext.refl _⟩
    · have hin := spec_l1In_yes d 1 100 w (by omega) (by omega)
      have hb := fun w' (hx : Ext w w') (q : Int) (hq : 0 ≤ q ∧ q ≤ 4000) => spec_l8Below_any v m m.length q d w' (h.ext hx) (isSm_IsS hsm) hq (by omega)
      have hfl : floorV m d = halve (fun q => belowB m q d) 4000 0 (36 * d + 1) := floorV_yes hsm (by omega) (by omega)
      have hstep := fun lo hi => halve_step (f := fun q => belowB m q d) (low := lo) (high := hi)
      have hdone := fun lo hi => halve_done (f := fun q => belowB m q d) (low := lo) (high := hi)
      obtain ⟨D, hD⟩ : ∃ D : Nat, 36 * d + 1 = (D : Int) := ⟨(36 * d + 1).toNat, by omega⟩
      have hd1 : 1 ≤ d := by omega
      have hd2 : d ≤ 100 := by omega
      have hD2 : D ≤ 3601 := by omega
      have hD1 : 1 ≤ D := by omega
      rw [hD] at hfl
      have HI := Lib.hid (And.intro hs (And.intro hb (And.intro hfl (And.intro hstep (And.intro hdone hin)))))
      clear hs hsm hb hfl hstep hdone h
      go_enter Tryd.func35, Tryd.ntmps35
      go_wp2_with (first | (go_at_call 22; with_reducible refine HI.out.1.mono ?_; rintro e w' ⟨rfl, rfl⟩) | (go_at_call 55; with_reducible refine HI.out.2.2.2.2.2.mono ?_; rintro e w' ⟨rfl, rfl⟩))
      go_loopw [5, 6] (fun l u wr => ∃ lo hi : Nat, l = .int .i64 lo ∧ u = .int .i64 hi ∧ lo < hi ∧ hi ≤ 3601 ∧ halve (fun q => belowB m q d) 4000 lo hi = floorV m d ∧ Ext w wr) (fun l u _ => (intOf u - intOf l).toNat)
      case atStart => exact ⟨0, D, rfl, by go_num, by omega, hD2, HI.out.2.2.1.symm, Ext.refl _⟩
      case round =>
        clear hD
        obtain ⟨lo, hi, rfl, rfl, hlh, hh, hp, hx⟩ := hrel
        by_cases hgt : lo + 1 < hi
        · obtain ⟨Q, hQ⟩ : ∃ Q : Nat, ((lo : Int) + (hi : Int)) / 2 = (Q : Int) := ⟨(((lo : Int) + (hi : Int)) / 2).toNat, by omega⟩
          have hQ1 : lo < Q := by omega
          have hQ2 : Q < hi := by omega
          have hst := HI.out.2.2.2.1 lo hi (by omega) (by omega)
          rw [hp, hQ] at hst
          have hbl := HI.out.2.1 wr hx Q (by omega)
          cases hbb : belowB m Q d with
          | true =>
            simp only [hbb, if_true] at hst
            rw [hbb] at hbl
            have HK := Lib.hid (And.intro hbl hst)
            clear hbl hst hbb hp
            go_wp2_with fail
            with_reducible refine HK.out.1.mono ?_
            rintro e w1 ⟨rfl, hx1⟩
            go_wp2
            go_roundw
            case rel => exact ⟨lo, Q, rfl, rfl, hQ1, by omega, HK.out.2.symm, hx.trans hx1⟩
            case measure => simp [intOf]; omega
          | false =>
            simp only [hbb, if_false, Bool.false_eq_true] at hst
            rw [hbb] at hbl
            have HK := Lib.hid (And.intro hbl hst)
            clear hbl hst hbb hp
            go_wp2_with fail
            with_reducible refine HK.out.1.mono ?_
            rintro e w1 ⟨rfl, hx1⟩
            go_wp2
            go_roundw
            case rel => exact ⟨Q, hi, rfl, rfl, hQ2, hh, HK.out.2.symm, hx.trans hx1⟩
            case measure => simp [intOf]; omega
        · have hst := HI.out.2.2.2.2.1 lo hi (by omega) 4000
          rw [hp] at hst
          have HK := Lib.hid hst
          clear hst hp
          go_wp2
          go_ret
          exact ⟨by rw [HK.out]; rfl, hx⟩
end Go.Proofs.YtdngkfedkgiioaaDoor

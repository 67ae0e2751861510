/- Contracts: growths compared, by the program and by the reference. -/
import Derived.Test.YtdngkfedkgiioaaDoorFloorA
namespace Go.Proofs.YtdngkfedkgiioaaDoor
open Go.RowKit Go.Mx

def cmpX (x y : Int) : Int := if x < 0 ∨ y < 0 then -2 else if x < y then -1 else if y < x then 1 else 0
theorem cmpX_neg {x y : Int} (h : x < 0 ∨ y < 0) : cmpX x y = -2 := if_pos h
theorem cmpX_lt {x y : Int} (h : ¬ (x < 0 ∨ y < 0)) (h2 : x < y) : cmpX x y = -1 := by unfold cmpX; rw [if_neg h, if_pos h2]
theorem cmpX_gt {x y : Int} (h : ¬ (x < 0 ∨ y < 0)) (h2 : y < x) : cmpX x y = 1 := by unfold cmpX; rw [if_neg h, if_neg (by omega), if_pos h2]
theorem cmpX_eq {x y : Int} (h : ¬ (x < 0 ∨ y < 0)) (h2 : x = y) : cmpX x y = 0 := by unfold cmpX; rw [if_neg h, if_neg (by omega), if_neg (by omega)]

set_option maxHeartbeats 1000000 in
theorem impl_CompareGrowth_any (v v' : Value) (a b : List (List Int)) (d : Int) (w : World) (h : ReadsRows w v a) (h' : ReadsRows w v' b) :
    Calls Tryd.prog 38 #[v, v', .int .i64 d] w fun e w' => e = .returned (.int .i64 (cmpX (floorV a d) (floorV b d))) ∧ Ext w w' := by
  obtain ⟨x, hx⟩ : ∃ x, x = floorV a d := ⟨_, rfl⟩
  obtain ⟨y, hy⟩ : ∃ x, x = floorV b d := ⟨_, rfl⟩
  have ha := fun w' (hw : Ext w w') => impl_FloorOfGrowth_any v a d w' (h.ext hw)
  have hb := fun w' (hw : Ext w w') => impl_FloorOfGrowth_any v' b d w' (h'.ext hw)
  rw [← hx, ← hy]
  rw [← hx] at ha
  rw [← hy] at hb
  have HI := Lib.hid (And.intro ha hb)
  clear ha hb hx hy
  by_cases hx0 : x < 0
  · have HV := Lib.hid (cmpX_neg (y := y) (.inl hx0))
    go_enter Tryd.func38, Tryd.ntmps38
    go_wp2_with fail
    with_reducible refine (HI.out.1 _ (Ext.refl _)).mono ?_
    rintro e w1 ⟨rfl, hx1⟩
    go_wp2_with fail
    with_reducible refine (HI.out.2 _ hx1).mono ?_
    rintro e w2 ⟨rfl, hx2⟩
    go_wp2
    go_ret
    exact ⟨by rw [HV.out]; rfl, hx1.trans hx2⟩
  by_cases hy0 : y < 0
  · have HV := Lib.hid (cmpX_neg (x := x) (.inr hy0))
    go_enter Tryd.func38, Tryd.ntmps38
    go_wp2_with fail
    with_reducible refine (HI.out.1 _ (Ext.refl _)).mono ?_
    rintro e w1 ⟨rfl, hx1⟩
    go_wp2_with fail
    with_reducible refine (HI.out.2 _ hx1).mono ?_
    rintro e w2 ⟨rfl, hx2⟩
    go_wp2
    go_ret
    exact ⟨by rw [HV.out]; rfl, hx1.trans hx2⟩
  by_cases hxy : x < y
  · have HV := Lib.hid (cmpX_lt (by omega) hxy)
    go_enter Tryd.func38, Tryd.ntmps38
    go_wp2_with fail
    with_reducible refine (HI.out.1 _ (Ext.refl _)).mono ?_
    rintro e w1 ⟨rfl, hx1⟩
    go_wp2_with fail
    with_reducible refine (HI.out.2 _ hx1).mono ?_
    rintro e w2 ⟨rfl, hx2⟩
    go_wp2
    go_ret
    exact ⟨by rw [HV.out]; rfl, hx1.trans hx2⟩
  by_cases hyx : y < x
  · have HV := Lib.hid (cmpX_gt (by omega) hyx)
    go_enter Tryd.func38, Tryd.ntmps38
    go_wp2_with fail
    with_reducible refine (HI.out.1 _ (Ext.refl _)).mono ?_
    rintro e w1 ⟨rfl, hx1⟩
    go_wp2_with fail
    with_reducible refine (HI.out.2 _ hx1).mono ?_
    rintro e w2 ⟨rfl, hx2⟩
    go_wp2
    go_ret
    exact ⟨by rw [HV.out]; rfl, hx1.trans hx2⟩
  · have HV := Lib.hid (cmpX_eq (x := x) (y := y) (by omega) (by omega))
    go_enter Tryd.func38, Tryd.ntmps38
    go_wp2_with fail
    with_reducible refine (HI.out.1 _ (Ext.refl _)).mono ?_
    rintro e w1 ⟨rfl, hx1⟩
    go_wp2_with fail
    with_reducible refine (HI.out.2 _ hx1).mono ?_
    rintro e w2 ⟨rfl, hx2⟩
    go_wp2
    go_ret
    exact ⟨by rw [HV.out]; rfl, hx1.trans hx2⟩
set_option maxHeartbeats 1000000 in
theorem spec_CompareGrowth_any (v v' : Value) (a b : List (List Int)) (d : Int) (w : World) (h : ReadsRows w v a) (h' : ReadsRows w v' b) :
    Calls Tryd.prog 39 #[v, v', .int .i64 d] w fun e w' => e = .returned (.int .i64 (cmpX (floorV a d) (floorV b d))) ∧ Ext w w' := by
  obtain ⟨x, hx⟩ : ∃ x, x = floorV a d := ⟨_, rfl⟩
  obtain ⟨y, hy⟩ : ∃ x, x = floorV b d := ⟨_, rfl⟩
  have ha := fun w' (hw : Ext w w') => spec_FloorOfGrowth_any v a d w' (h.ext hw)
  have hb := fun w' (hw : Ext w w') => spec_FloorOfGrowth_any v' b d w' (h'.ext hw)
  rw [← hx, ← hy]
  rw [← hx] at ha
  rw [← hy] at hb
  have HI := Lib.hid (And.intro ha hb)
  clear ha hb hx hy
  by_cases hx0 : x < 0
  · have HV := Lib.hid (cmpX_neg (y := y) (.inl hx0))
    go_enter Tryd.func39, Tryd.ntmps39
    go_wp2_with fail
    with_reducible refine (HI.out.1 _ (Ext.refl _)).mono ?_
    rintro e w1 ⟨rfl, hx1⟩
    go_wp2_with fail
    with_reducible refine (HI.out.2 _ hx1).mono ?_
    rintro e w2 ⟨rfl, hx2⟩
    go_wp2_with (go_at_call 73; with_reducible refine (spec_l1Bit_any _ _).mono ?_; rintro e w' ⟨rfl, rfl⟩)
    go_ret
    exact ⟨by rw [HV.out]; rfl, hx1.trans hx2⟩
  by_cases hy0 : y < 0
  · have HV := Lib.hid (cmpX_neg (x := x) (.inr hy0))
    go_enter Tryd.func39, Tryd.ntmps39
    go_wp2_with fail
    with_reducible refine (HI.out.1 _ (Ext.refl _)).mono ?_
    rintro e w1 ⟨rfl, hx1⟩
    go_wp2_with fail
    with_reducible refine (HI.out.2 _ hx1).mono ?_
    rintro e w2 ⟨rfl, hx2⟩
    go_wp2_with (go_at_call 73; with_reducible refine (spec_l1Bit_any _ _).mono ?_; rintro e w' ⟨rfl, rfl⟩)
    go_ret
    exact ⟨by rw [HV.out]; rfl, hx1.trans hx2⟩
  by_cases hxy : x < y
  · have HV := Lib.hid (cmpX_lt (by omega) hxy)
    go_enter Tryd.func39, Tryd.ntmps39
    go_wp2_with fail
    with_reducible refine (HI.out.1 _ (Ext.refl _)).mono ?_
    rintro e w1 ⟨rfl, hx1⟩
    go_wp2_with fail
    with_reducible refine (HI.out.2 _ hx1).mono ?_
    rintro e w2 ⟨rfl, hx2⟩
    go_wp2_with (go_at_call 73; with_reducible refine (spec_l1Bit_any _ _).mono ?_; rintro e w' ⟨rfl, rfl⟩)
    go_ret
    exact ⟨by rw [HV.out]; rfl, hx1.trans hx2⟩
  by_cases hyx : y < x
  · have HV := Lib.hid (cmpX_gt (by omega) hyx)
    go_enter Tryd.func39, Tryd.ntmps39
    go_wp2_with fail
    with_reducible refine (HI.out.1 _ (Ext.refl _)).mono ?_
    rintro e w1 ⟨rfl, hx1⟩
    go_wp2_with fail
    with_reducible refine (HI.out.2 _ hx1).mono ?_
    rintro e w2 ⟨rfl, hx2⟩
    go_wp2_with (go_at_call 73; with_reducible refine (spec_l1Bit_any _ _).mono ?_; rintro e w' ⟨rfl, rfl⟩)
    go_ret
    exact ⟨by rw [HV.out]; rfl, hx1.trans hx2⟩
  · have HV := Lib.hid (cmpX_eq (x := x) (y := y) (by omega) (by omega))
    go_enter Tryd.func39, Tryd.ntmps39
    go_wp2_with fail
    with_reducible refine (HI.out.1 _ (Ext.refl _)).mono ?_
    rintro e w1 ⟨rfl, hx1⟩
    go_wp2_with fail
    with_reducible refine (HI.out.2 _ hx1).mono ?_
    rintro e w2 ⟨rfl, hx2⟩
    go_wp2_with (go_at_call 73; with_reducible refine (spec_l1Bit_any _ _).mono ?_; rintro e w' ⟨rfl, rfl⟩)
    go_ret
    exact ⟨by rw [HV.out]; rfl, hx1.trans hx2⟩
end Go.Proofs.YtdngkfedkgiioaaDoor

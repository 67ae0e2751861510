/- For every code the law FnGrowth returns true (the tied card). No conditions. -/
import Derived.Test.YtdngkfedkgiioaaDoorGrwFacts
import Derived.Test.YtdngkfedkgiioaaDoorDrwV
import Derived.Test.YtdngkfedkgiioaaDoorCmpA
import Derived.Test.YtdngkfedkgiioaaDoorPkR
import Derived.Test.YtdngkfedkgiioaaDoorLaidTab
import Derived.Test.YtdngkfedkgiioaaDoorPkC
import Derived.Test.YtdngkfedkgiioaaDoorTie
import Derived.Test.YtdngkfedkgiioaaDoorCards
import Derived.LaidLaws
import Derived.LaidMore
import Derived.LaidHandle
import Derived.SevenTiedAt
import Derived.Deep.DeepCutAuto
namespace Go.Proofs.YtdngkfedkgiioaaDoor
open Go.ChangeShapes Go.WideShapes Go.ChangeAt Go.RowKit Go.Mx Go.Cm
open Go.ChangeMaps (open_string shut_string)

set_option maxRecDepth 100000 in
set_option maxHeartbeats 40000000 in
theorem fnGrowth_any (v : Value) (xs : List UInt8) (w : World) (h : ReadsB w v xs) (hm : TabC w) :
    Calls Tryd.prog 4 #[v] w fun e w' => e = .returned (.bool true) ∧ Ext w w' := by
  have hx := Ext.refl w
  have HM := Lib.hid hm
  clear hm
  go_enter Tryd.func4, Tryd.ntmps4
  go_wp2_with fail
  with_reducible refine (laws_big_any v xs _ h).mono ?_
  rintro e w1 ⟨b, rfl, rfl⟩
  cases b
  rotate_left
  · go_wp2
    go_ret
    exact ⟨rfl, hx⟩
  go_wp2_with fail
  with_reducible refine (spec_DrawFloorOfGrowth_any v xs _ h).mono ?_
  rintro e w1 ⟨um, T, d, rfl, hT, hdb, hy⟩
  replace hx := hx.trans hy
  clear hy
  have hf1 := impl_FloorOfGrowth_any um T d
  have hf2 := spec_FloorOfGrowth_any um T d
  have hg1 := impl_GrowthText_any um T d
  have hg2 := spec_GrowthText_any um T d
  have hr1 := impl_RowBounds_any um T
  have hr2 := spec_RowBounds_any um T
  have hl1 := impl_IsGrowthless_any um T
  have hl2 := spec_IsGrowthless_any um T
  obtain ⟨q, hq⟩ : ∃ q, q = floorV T d := ⟨_, rfl⟩
  obtain ⟨gt, hgt⟩ : ∃ s, s = mkS (growT T d) := ⟨_, rfl⟩
  obtain ⟨lo, hlo⟩ : ∃ l, l = lowV T := ⟨_, rfl⟩
  obtain ⟨hi, hhi⟩ : ∃ l, l = highV T := ⟨_, rfl⟩
  obtain ⟨lv, hlv⟩ : ∃ l, l = lightV T := ⟨_, rfl⟩
  rw [← hq] at hf1 hf2
  rw [← hgt] at hg1 hg2
  rw [← hlo, ← hhi] at hr1 hr2
  rw [← hlv] at hl1 hl2
  have hgt0 : q < 0 → gt = ⟨#[]⟩ := fun h => by
    rw [hgt, show growT T d = [] from if_pos (by rw [← hq]; exact h)]
    rfl
  have hfa := growth_facts hq
  rw [← hlo, ← hhi, ← hlv] at hfa
  have HF := Lib.hid (And.intro hf1 (And.intro hf2 (And.intro hg1 (And.intro hg2 (And.intro hr1 (And.intro hr2 (And.intro hl1 (And.intro hl2 (And.intro hgt0 hfa)))))))))
  clear hf1 hf2 hg1 hg2 hr1 hr2 hl1 hl2 hgt0 hfa hgt hlo hhi hlv hq
  go_wp2_with fail
  with_reducible refine (HF.out.1 _ hT).mono ?_
  rintro e w2 ⟨rfl, hy⟩
  replace hx := hx.trans hy
  replace hT := hT.ext hy
  clear hy
  go_wp2_with fail
  with_reducible refine (spec_DrawIsBelow_any v xs _ (h.ext hx)).mono ?_
  rintro e w3 ⟨ua, A, xa, ya, rfl, hA, hy⟩
  replace hx := hx.trans hy
  replace hT := hT.ext hy
  clear hy
  have hb1 := impl_IsBelow_any ua A xa ya
  have hb2 := spec_IsBelow_any ua A xa ya
  obtain ⟨bb, hbb⟩ : ∃ l, l = below? A xa ya := ⟨_, rfl⟩
  rw [← hbb] at hb1 hb2
  have HB := Lib.hid (And.intro hb1 hb2)
  clear hb1 hb2 hbb
  go_wp2_with fail
  with_reducible refine (spec_DrawCompareGrowth_any v xs _ (h.ext hx)).mono ?_
  rintro e w4 ⟨ub, uc, B, C, de, rfl, hB, hC, hy⟩
  replace hx := hx.trans hy
  replace hT := hT.ext hy
  replace hA := hA.ext hy
  clear hy
  have hb1 := impl_CompareGrowth_any ub uc B C de
  have hb2 := spec_CompareGrowth_any ub uc B C de
  obtain ⟨cg, hcg⟩ : ∃ l, l = cmpX (floorV B de) (floorV C de) := ⟨_, rfl⟩
  rw [← hcg] at hb1 hb2
  have HC := Lib.hid (And.intro hb1 hb2)
  clear hb1 hb2 hcg
  go_wp2_with fail
  with_reducible refine (HF.out.2.2.2.2.1 _ hT).mono ?_
  rintro e w5 ⟨rfl, hy⟩
  replace hx := hx.trans hy
  replace hT := hT.ext hy
  replace hA := hA.ext hy
  replace hB := hB.ext hy
  replace hC := hC.ext hy
  clear hy
  go_wp2_with fail
  with_reducible refine (HF.out.2.2.2.2.2.1 _ hT).mono ?_
  rintro e w6 ⟨rfl, hy⟩
  replace hx := hx.trans hy
  replace hT := hT.ext hy
  replace hA := hA.ext hy
  replace hB := hB.ext hy
  replace hC := hC.ext hy
  clear hy
  go_wp2_with fail
  with_reducible refine (HF.out.2.1 _ hT).mono ?_
  rintro e w7 ⟨rfl, hy⟩
  replace hx := hx.trans hy
  replace hT := hT.ext hy
  replace hA := hA.ext hy
  replace hB := hB.ext hy
  replace hC := hC.ext hy
  clear hy
  go_wp2_with fail
  with_reducible refine (HB.out.1 _ hA).mono ?_
  rintro e w8 ⟨rfl, hy⟩
  replace hx := hx.trans hy
  replace hT := hT.ext hy
  replace hA := hA.ext hy
  replace hB := hB.ext hy
  replace hC := hC.ext hy
  clear hy
  go_wp2_with fail
  with_reducible refine (HB.out.2 _ hA).mono ?_
  rintro e w9 ⟨rfl, hy⟩
  replace hx := hx.trans hy
  replace hT := hT.ext hy
  replace hA := hA.ext hy
  replace hB := hB.ext hy
  replace hC := hC.ext hy
  clear hy
  clear hA HB
  go_wp2_with fail
  with_reducible refine (HC.out.1 _ hB hC).mono ?_
  rintro e w10 ⟨rfl, hy⟩
  replace hx := hx.trans hy
  replace hT := hT.ext hy
  replace hB := hB.ext hy
  replace hC := hC.ext hy
  clear hy
  go_wp2_with fail
  with_reducible refine (HC.out.2 _ hB hC).mono ?_
  rintro e w11 ⟨rfl, hy⟩
  replace hx := hx.trans hy
  replace hT := hT.ext hy
  replace hB := hB.ext hy
  replace hC := hC.ext hy
  clear hy
  clear hB hC HC
  go_wp2_with fail
  with_reducible refine (HF.out.2.2.1 _ hT (HM.out.ext hx)).mono ?_
  rintro e w12 ⟨rfl, hy⟩
  replace hx := hx.trans hy
  replace hT := hT.ext hy
  clear hy
  go_wp2_with fail
  with_reducible refine (HF.out.2.2.2.1 _ hT).mono ?_
  rintro e w13 ⟨rfl, hy⟩
  replace hx := hx.trans hy
  replace hT := hT.ext hy
  clear hy
  go_wp2_with fail
  with_reducible refine (HF.out.2.2.2.2.2.2.1 _ hT).mono ?_
  rintro e w14 ⟨rfl, hy⟩
  replace hx := hx.trans hy
  replace hT := hT.ext hy
  clear hy
  go_wp2_with fail
  with_reducible refine (HF.out.2.2.2.2.2.2.2.1 _ hT).mono ?_
  rintro e w15 ⟨rfl, hy⟩
  replace hx := hx.trans hy
  replace hT := hT.ext hy
  clear hy
  as_aux_lemma =>
  by_cases hq0 : q < 0
  · obtain rfl := HF.out.2.2.2.2.2.2.2.2.1 (by omega)
    go_wp2_with fail
    with_reducible refine (HF.out.2.2.1 _ hT (HM.out.ext hx)).mono ?_
    rintro e w16 ⟨rfl, hy⟩
    go_wp2
    go_ret
    exact ⟨rfl, hx.trans hy⟩
  obtain ⟨⟨hqa, hqb, hda, hdb'⟩, hmt, hbl, hbl1, ⟨hlq, hhq, hl0, hh0⟩, htf, hpw, hlv⟩ := HF.out.2.2.2.2.2.2.2.2.2 (by omega)
  have hb1 := impl_IsBelow_any um T q d
  rw [hbl] at hb1
  have HB := Lib.hid (And.intro hb1 (And.intro (impl_IsBelow_any um T (q + 1) d) (And.intro hbl1 (And.intro htf (And.intro hpw (And.intro hlv hmt))))))
  clear hb1 hbl hbl1 htf hpw hlv hmt
  go_upto_region 13 with fail
  go_cut [148] (fun s148 wx => s148 = .bool false ∧ Ext w15 wx)
  case first =>
    have hxa := Ext.refl w15
    go_wp2_with fail
    with_reducible refine (HB.out.1 _ (hT.ext hxa)).mono ?_
    rintro e wr ⟨rfl, hy⟩
    replace hxa := hxa.trans hy
    clear hy
    by_cases hq1 : q + 1 ≤ 3600
    · have hb2 := HB.out.2.1 _ (hT.ext hxa)
      rw [HB.out.2.2.1 hq1] at hb2
      go_wp2_with fail
      with_reducible refine hb2.mono ?_
      rintro e ws ⟨rfl, hy⟩
      replace hxa := hxa.trans hy
      clear hy hb2
      have htm := spec_TurnMatrix_any um T
      go_wp2_with fail
      refine (htm _ (hT.ext hxa) HB.out.2.2.2.2.2.2).mono ?_
      rintro e wt ⟨ut, rfl, hut, hy⟩
      replace hxa := hxa.trans hy
      have hft := impl_FloorOfGrowth_any ut (turnM T) d _ hut
      rw [HB.out.2.2.2.1] at hft
      clear hy htm
      go_wp2_with fail
      with_reducible refine hft.mono ?_
      rintro e wv ⟨rfl, hy⟩
      clear hft
      go_wp2
      go_meet
      exact ⟨by rw [decide_eq_false (show ¬ q < lo * d by omega), decide_eq_false (show ¬ hi * d < q by omega)]; rfl, hxa.trans hy⟩
    · skip
      have htm := spec_TurnMatrix_any um T
      go_wp2_with fail
      refine (htm _ (hT.ext hxa) HB.out.2.2.2.2.2.2).mono ?_
      rintro e wt ⟨ut, rfl, hut, hy⟩
      replace hxa := hxa.trans hy
      have hft := impl_FloorOfGrowth_any ut (turnM T) d _ hut
      rw [HB.out.2.2.2.1] at hft
      clear hy htm
      go_wp2_with fail
      with_reducible refine hft.mono ?_
      rintro e wv ⟨rfl, hy⟩
      clear hft
      go_wp2
      go_meet
      exact ⟨by rw [decide_eq_false (show ¬ q < lo * d by omega), decide_eq_false (show ¬ hi * d < q by omega)]; rfl, hxa.trans hy⟩
  case rest =>
  as_aux_lemma =>
  obtain ⟨rfl, hy⟩ := hcut
  replace hx := hx.trans hy
  replace hT := hT.ext hy
  clear hy hlq hhq hl0 hh0
  obtain ⟨wk, rfl⟩ : ∃ wk : World, wk = wc := ⟨_, rfl⟩
  have hpm := spec_PowerMatrix_any um T 2
  have hlm := impl_IsGrowthless_any um T
  have hf1 := impl_FloorOfGrowth_any um T 100
  obtain ⟨f1, hf1e⟩ : ∃ f, f = floorV T 100 := ⟨_, rfl⟩
  rw [← hf1e] at hf1
  have hl3 := HF.out.2.2.2.2.2.2.1
  rw [HB.out.2.2.2.2.2.1, ← hf1e] at hl3
  have HP := Lib.hid (And.intro hpm (And.intro hl3 hf1))
  clear hpm hlm hf1 hl3 hf1e
  go_wp2_with fail
  refine (HP.out.1 _ hT).mono ?_
  rintro e w16 ⟨up, rfl, hp, hy⟩
  replace hx := hx.trans hy
  replace hT := hT.ext hy
  clear hy
  cases hpo : powO T 2 with
  | none =>
    rw [Option.isSome_none]
    go_wp2_with fail
    with_reducible refine (HP.out.2.1 _ hT).mono ?_
    rintro e wa ⟨rfl, hy⟩
    replace hx := hx.trans hy
    replace hT := hT.ext hy
    clear hy
    go_wp2_with fail
    with_reducible refine (HP.out.2.2 _ hT).mono ?_
    rintro e wb ⟨rfl, hy⟩
    go_wp2
    go_ret
    exact ⟨rfl, hx.trans hy⟩
  | some p =>
    rw [hpo] at hp
    rw [Option.isSome_some]
    have hps : ReadsRows w16 up p := hp
    have hsp := spec_IsSmall_any up p w16 hps
    have hfp := impl_FloorOfGrowth_any up p d w16 hps
    have hfx := HB.out.2.2.2.2.1 p hpo
    obtain ⟨sp, hspe⟩ : ∃ s, s = isSm p := ⟨_, rfl⟩
    rw [← hspe] at hsp hfx
    have HQ := Lib.hid (And.intro hsp (And.intro hfp hfx))
    clear hsp hfp hfx hspe hpo hp hps
    go_wp2_with fail
    with_reducible refine HQ.out.1.mono ?_
    rintro e w' ⟨rfl, rfl⟩
    cases sp
    · skip
      go_wp2_with fail
      with_reducible refine (HP.out.2.1 _ hT).mono ?_
      rintro e wa ⟨rfl, hy⟩
      replace hx := hx.trans hy
      replace hT := hT.ext hy
      clear hy
      go_wp2_with fail
      with_reducible refine (HP.out.2.2 _ hT).mono ?_
      rintro e wb ⟨rfl, hy⟩
      go_wp2
      go_ret
      exact ⟨rfl, hx.trans hy⟩
    · obtain ⟨r, hr, ⟨hr0, hr1⟩, hn1, hn2, ⟨ha1, ha2⟩, ⟨ha3, ha4⟩, ⟨ha5, ha6⟩, ⟨ha7, ha8⟩⟩ := HQ.out.2.2 (by first | rfl | trivial)
      have hfp := HQ.out.2.1
      rw [hr] at hfp
      have HQ2 := Lib.hid hfp
      clear hfp hr HQ
      go_wp2_with fail
      with_reducible refine HQ2.out.mono ?_
      rintro e w17 ⟨rfl, hy⟩
      replace hx := hx.trans hy
      replace hT := hT.ext hy
      clear hy HQ2
      go_wp2_with fail
      with_reducible refine (HP.out.2.1 _ hT).mono ?_
      rintro e wa ⟨rfl, hy⟩
      replace hx := hx.trans hy
      replace hT := hT.ext hy
      clear hy
      go_wp2_with fail
      with_reducible refine (HP.out.2.2 _ hT).mono ?_
      rintro e wb ⟨rfl, hy⟩
      go_wp2
      go_ret
      exact ⟨rfl, hx.trans hy⟩

/-- The door's own heap meets the condition. -/
theorem fnGrowth_door (os : Os) (args : Array Value) : laidMetH Tryd.prog Rows.fnGrowthRow.laid ((World.doorLaid Tryd.prog 400 os).forCall (fun _ _ => 0) ⟨#[], args, []⟩).memory :=
  laidMetH_of_parts3 (fuel := 8) (laidMet_of_run' 8 (by kernel_rfl) (by kernel_rfl)) (by kernel_rfl) (by kernel_rfl)
set_option maxRecDepth 100000 in
set_option linter.unusedVariables false in
theorem fnGrowth_lifted (os : Os) (started : os.Started) (H : Type) (enc : TypeId × Value → H) :
    ReturnsInHanded {} Tryd.checked os 4 .any (fun w args => (Rows.fnGrowthSpec.pre enc Tryd.prog Tryd.f4 [] false w args ∧ laidMetH Tryd.prog Rows.fnGrowthRow.laid w) ∧ sizedMet enc Tryd.prog Tryd.f4 (OpenSpec.ofChange Rows.fnGrowthSpec) false w args) (Rows.fnGrowthSpec.post enc Tryd.prog Tryd.f4 false true false false) := by
  refine returnsInHanded_of_change_and (C := Tryd.checked) (X := fun w _ => laidMetH Tryd.prog Rows.fnGrowthRow.laid w) (fun _ _ _ hh h => h.of_heap hh) own started (by kernel_rfl) Tryd.func4
    (ChangeSpec.witness_shaped (enc := enc) (C := Tryd.checked) (os := os) (X := fun w _ => laidMetH Tryd.prog Rows.fnGrowthRow.laid w) false (World.doorLaid Tryd.prog 400 os) #[.slice none 0 0] 8 rfl (World.shaped_of_RefB (by kernel_rfl) (by kernel_rfl)) (by kernel_rfl) (by kernel_rfl) (by kernel_rfl) (fnGrowth_door os _)) ?_
  intro W base args ds gs before hval0 hW hcnd _ hL _
  have hval : ∀ (j : Nat) t v, Tryd.f4.params[j]? = some t → args[j]? = some v → Value.okWide Tryd.prog W .any base t v := hval0
  have hW' := hW
  obtain ⟨p, q, hA0, hV, rfl, hfz, hnd⟩ := hW
  have hA : DataW.TrodAll enc Tryd.prog W 0 (fun _ => true) true Tryd.f4.params.toList args.toList ds p := hA0
  rw [Tryd.params4] at hA hval
  obtain ⟨v0, vs0, d0, ds0, p0, q0, hargs, rfl, rfl, h0, r0⟩ := trodAll_cons hA
  obtain ⟨rfl, rfl, rfl⟩ := trodAll_nil r0
  obtain rfl : args = #[v0] := by cases args; simp_all
  obtain ⟨rfl, rfl⟩ := trodVars_none hV
  have k0 := h0
  have lt0 : ∀ x ∈ p0, x.block < W.heap.size := by obtain ⟨m, hm⟩ := k0; exact DataW.trod_lt m _ _ _ hm
  obtain ⟨xs0, rd0⟩ := bytes_of_trod Tryd.underlying22 Tryd.underlying5 (by kernel_rfl) (hval 0 22 v0 rfl rfl) h0
  clear hA0 hval0
  refine (fnGrowth_any v0 xs0 W rd0 (tabC_of 2 hL (by rfl) (by rfl))).mono fun e W' ⟨he, bel⟩ => ?_
  subst he
  exact ⟨_, rfl, _, _, _, [], _, [], hW', trodAll_mk1 (shut_bool Tryd.underlying4 _), (trodAll_cons_mk (Below.trod laidOut (by kernel_rfl) (of_decide_eq_true (by kernel_rfl)) k0 bel lt0) trodAll_mk0), rfl, Below.frame bel _, fun h => by cases h⟩

theorem fnGrowth_holds : Rows.FnGrowthSaid :=
  OpenClaim.holds_of_wide 4 Tryd.f4 rfl rfl rfl rfl rfl rfl rfl ⟨rfl, rfl, rfl, rfl, rfl⟩ rfl rfl rfl rfl rfl (by kernel_rfl) Tryd.func4 (by kernel_rfl)
    (of_decide_eq_true (by kernel_rfl)) (by unfold Func.isWrapper; first | (rw [if_pos (by decide +kernel)]; kernel_rfl) | (rw [if_neg (by decide +kernel)]; exact ⟨rfl, rfl⟩))
    (fun os started H enc _ => fnGrowth_lifted os started H enc)

theorem fnGrowth_card : Rows.FnGrowthCardSaid :=
  Claim7.holds_tied_plain_at .later [] [.data, .data, .data] true (true, "79cb490849a0fec8b990601b242c61cbb848be3668d0a6da74bef4dd9cb5dcf3") false
    fnGrowth_holds (fun _ h => by cases h) (by kernel_rfl) (fun _ h => by cases h) fnGrowth_row_tie rfl ⟨rfl, rfl⟩ (by kernel_rfl) rfl
    (fun f fn hf hfn => by
      obtain rfl : f = 4 := Option.some.inj ((show Tryd.prog.funcNamed "loop.example/g03103/laws.FnGrowth" = some 4 by kernel_rfl).symm.trans hf) |>.symm
      obtain rfl : fn = Tryd.f4 := (Option.some.inj (Tryd.func4.symm.trans hfn)).symm
      exact ⟨by kernel_rfl, fun j t ht => by
        rw [Tryd.params4] at ht
        have hm : t ∈ [22] := by simpa using Array.mem_of_getElem? ht
        have hall : ([22].all fun u => !Tryd.prog.wantsStandIn u) = true := by kernel_rfl
        exact (show Tryd.prog.wantsStandIn t = false by simpa using List.all_eq_true.1 hall t hm)⟩)
    (by kernel_rfl)
end Go.Proofs.YtdngkfedkgiioaaDoor

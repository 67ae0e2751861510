/- For all arguments the law FnExactCountWords returns true. No conditions. -/
import Derived.Test.YtgbbidlbdjbilaaLawU
import Derived.Test.YtgbbidlbdjbilaaCntB
namespace Go.Proofs.Ytgbbidlbdjbilaa
open Go.ChangeShapes Go.WideShapes Go.ChangeAt Go.RowKit Go.Cm

set_option maxRecDepth 100000 in
set_option maxHeartbeats 4000000 in
theorem exactCountWords_any (L : Int) (u : Value) (xs : List ByteArray) (n : Int) (w : World) (_ : -9223372036854775808 ≤ L ∧ L ≤ 9223372036854775807) (A : ReadsS w u xs ∧ ∀ s ∈ xs, s.size ≤ maxLen) (hn : (Lit.int .i64 n).wf = true) (hm : MaxC w) :
    Calls Try.prog 5 #[.agg #[.int .i64 L, u], .int .i64 n] w fun e w' => e = .returned (.bool true) ∧ Ext w w' := by
  obtain ⟨F, hR, hF⟩ := shift_arg A
  clear A
  have hn' := i64_bounds hn
  clear hn
  obtain ⟨pa, ca, rfl⟩ := hR.slice
  have HW := Lib.hid (Ext.alloc w (.cells #[.int .i64 L, .slice pa F.length ca] 24))
  have HA := Lib.hid (And.intro hR (And.intro hF hm))
  clear hR hF hm
  have HC := Lib.hid (show ∀ w1, Ext (w.alloc (.cells #[.int .i64 L, .slice pa F.length ca] 24)) w1 → w1.cell? ⟨w.heap.size, 0, none⟩ = some (.int .i64 L) ∧ w1.cell? ⟨w.heap.size, 1, none⟩ = some (.slice pa F.length ca) from
    fun w1 hx => ⟨hx.cell_some (by simp), hx.cell_some (by simp)⟩)
  obtain ⟨l1, hl1⟩ : ∃ l, l = leftW 1048576 F := ⟨_, rfl⟩
  have hsz := fun w h => szShift_any L (.slice pa F.length ca) F 1048576 w (by omega) (by omega) h HA.out.2.1
  have hfit := fun h => leftW_fits (l := 1048576) (F := F) (by omega) h
  rw [← hl1] at hsz hfit
  have HL := Lib.hid (And.intro hsz hfit)
  clear hsz hfit hl1
  obtain ⟨r, hr⟩ : ∃ r, r = cntW L F n := ⟨_, rfl⟩
  have hsp := fun w u h => spec_CountWords_any L n u F w h HA.out.2.1
  have him := fun w u h hm => impl_CountWords_any L n u F w h hm HA.out.2.1
  rw [← hr] at hsp him
  have HE := Lib.hid (And.intro hsp him)
  clear hsp him hr
  go_enter Try.func5, Try.ntmps5
  go_wp2_with fail
  with_reducible refine (HL.out.1 _ (HA.out.1.ext HW.out)).mono ?_
  rintro e w1 ⟨rfl, hx⟩
  have E := Ext.trans HW.out hx
  have z1 := Lib.hid (And.intro hx.size E.size)
  obtain ⟨a0, a1⟩ := HC.out w1 hx
  by_cases hneg : l1 < 0
  · go_wp2
    go_ret
    exact ⟨rfl, E⟩
  obtain ⟨hs0, hs1, -⟩ := HL.out.2 (by omega)
  go_wp2_with fail
  with_reducible refine (toShift_any L _ F _ (HA.out.1.ext E) hs0).mono ?_
  rintro e w2 ⟨g1, rfl, Tg1, hy⟩
  replace E := E.trans hy
  replace hx := hx.trans hy
  have z2 := Lib.hid (show w1.heap.size ≤ w2.heap.size from hy.size)
  clear hy a0 a1
  obtain ⟨a0, a1⟩ := HC.out w2 hx
  replace Tg1 := RowB.of Tg1
  go_wp2_with fail
  with_reducible refine (HE.out.1 _ _ Tg1.reads).mono ?_
  rintro e w3 ⟨rfl, hy⟩
  clear Tg1
  replace E := E.trans hy
  replace hx := hx.trans hy
  have z3 := Lib.hid (show w2.heap.size ≤ w3.heap.size from hy.size)
  clear hy a0 a1
  obtain ⟨a0, a1⟩ := HC.out w3 hx
  go_wp2_with fail
  with_reducible refine (toShift_any L _ F _ (HA.out.1.ext E) hs0).mono ?_
  rintro e w4 ⟨x1, rfl, Tx1, hy⟩
  replace E := E.trans hy
  replace hx := hx.trans hy
  have z4 := Lib.hid (show w3.heap.size ≤ w4.heap.size from hy.size)
  clear hy a0 a1
  obtain ⟨a0, a1⟩ := HC.out w4 hx
  replace Tx1 := RowB.of Tx1
  go_wp2_with fail
  with_reducible refine (HE.out.2 _ _ (Tx1.ext (Ext.alloc _ _)).reads (HA.out.2.2.ext (E.trans (Ext.alloc _ _)))).mono ?_
  rintro e w5 ⟨rfl, hy⟩
  have b0 := hy.cell_some (show (w4.alloc (.cells #[.int .i64 L, .slice (some ⟨x1, 0, none⟩) F.length F.length] 27)).cell? ⟨w4.heap.size, 0, none⟩ = some (.int .i64 L) by simp)
  have b1 := hy.cell_some (show (w4.alloc (.cells #[.int .i64 L, .slice (some ⟨x1, 0, none⟩) F.length F.length] 27)).cell? ⟨w4.heap.size, 1, none⟩ = some (.slice (some ⟨x1, 0, none⟩) F.length F.length) by simp)
  have zb := Lib.hid (show w4.heap.size < w5.heap.size by have := hy.size; simp at this; omega)
  have zc := Lib.hid (show w4.heap.size < (w4.alloc (.cells #[.int .i64 L, .slice (some ⟨x1, 0, none⟩) F.length F.length] 27)).heap.size by simp)
  replace hy := (Ext.alloc w4 (.cells #[.int .i64 L, .slice (some ⟨x1, 0, none⟩) F.length F.length] 27)).trans hy
  replace E := E.trans hy
  replace hx := hx.trans hy
  replace Tx1 := Tx1.ext hy
  have z5 := Lib.hid (show w4.heap.size ≤ w5.heap.size from hy.size)
  clear hy a0 a1
  obtain ⟨a0, a1⟩ := HC.out w5 hx
  go_wp2
  refine wp_region_inv (by kernel_rfl) (.known ?hy_1_v0 :: .known ?hy_1_v1 :: .such (ShJ L F) (ShJ.ok _ _) :: .known (.bool true) :: .known ?hy_1_v4 :: []) rfl (by kernel_rfl) ?hy_1_s ?hy_1_p
  case hy_1_s =>
    intro vs
    refine ⟨fun w' hxw hj => ?_, fun w' hxw hj => ?_, fun w' hxw hj => ?_, fun w' hxw hj => ?_, fun w' hxw hj => ?_, trivial⟩
    · have a0 := Ext.cell_some hxw a0
      have a1 := Ext.cell_some hxw a1
      have b0 := Ext.cell_some hxw b0
      have b1 := Ext.cell_some hxw b1
      clear hj
      go_simp
      try go_bits
      first | rfl | (rw [if_pos (by omega), if_pos (by omega)]; go_simp; rfl) | (rw [if_pos (by omega)]; go_simp; rfl) | skip
    · have a0 := Ext.cell_some hxw a0
      have a1 := Ext.cell_some hxw a1
      have b0 := Ext.cell_some hxw b0
      have b1 := Ext.cell_some hxw b1
      clear hj
      go_simp
      try go_bits
      first | rfl | (rw [if_pos (by omega), if_pos (by omega)]; go_simp; rfl) | (rw [if_pos (by omega)]; go_simp; rfl) | skip
    · have a0 := Ext.cell_some hxw a0
      have a1 := Ext.cell_some hxw a1
      have b0 := Ext.cell_some hxw b0
      have b1 := Ext.cell_some hxw b1
      clear hj
      go_simp
      try go_bits
      exact toShJ_any L _ F _ (HA.out.1.ext (E.trans hxw)) hs0
    · have a0 := Ext.cell_some hxw a0
      have a1 := Ext.cell_some hxw a1
      have b0 := Ext.cell_some hxw b0
      have b1 := Ext.cell_some hxw b1
      obtain ⟨p3, n3, c3, e3, r3⟩ := hj 2 (by kernel_rfl)
      clear hj
      go_simp
      (try rw [e3])
      exact eqShift_same L _ _ F _ ((Tx1.ext hxw).reads) r3
    · have a0 := Ext.cell_some hxw a0
      have a1 := Ext.cell_some hxw a1
      have b0 := Ext.cell_some hxw b0
      have b1 := Ext.cell_some hxw b1
      clear hj
      go_simp
      try go_bits
      first | rfl | (rw [if_pos (by omega), if_pos (by omega)]; go_simp; rfl) | (rw [if_pos (by omega)]; go_simp; rfl) | skip
  case' hy_1_p =>
    intro vs w6 hy hk
    have k2 : (ShJ L F) (vs 2) w6 := hk 2 _ rfl
    clear hk
    replace a0 := Ext.cell_some hy a0
    replace a1 := Ext.cell_some hy a1
    replace b0 := Ext.cell_some hy b0
    replace b1 := Ext.cell_some hy b1
    go_simp
    clear k2
    replace E := E.trans hy
    replace hx := hx.trans hy
    replace Tx1 := Tx1.ext hy
    have z6 := Lib.hid (show w5.heap.size ≤ w6.heap.size from hy.size)
    clear hy
    go_wp2
    go_ret
    exact ⟨rfl, E⟩

set_option maxRecDepth 100000 in
set_option linter.unusedVariables false in
theorem fnExactCountWords_lifted (os : Os) (started : os.Started) (H : Type) (enc : TypeId × Value → H) :
    ReturnsInHanded {} Try.checked os 5 .any (Rows.fnExactCountWordsSpec.pre6 enc Try.prog Try.f5 Rows.fnExactCountWordsRow.domain false) (Rows.fnExactCountWordsSpec.post enc Try.prog Try.f5 false true false false) := by
  refine returnsInHanded_of_change_shaped (C := Try.checked) own started (by kernel_rfl) Try.func5
    (ChangeSpec.witness6 (enc := enc) (C := Try.checked) false ⟨#[], #[.agg #[.int .i64 0, .slice none 0 0], .int .i64 0], []⟩ 8 (by kernel_rfl) (by kernel_rfl) (by kernel_rfl) (by kernel_rfl)) ?_
  intro W base args ds gs before hval0 hW hcnd _ hsh _
  have hval : ∀ (j : Nat) t v, Try.f5.params[j]? = some t → args[j]? = some v → Value.okWide Try.prog W .any base t v := hval0
  have hW' := hW
  obtain ⟨p, q, hA0, hV, rfl, hfz, hnd⟩ := hW
  have hA : DataW.TrodAll enc Try.prog W 0 (fun _ => true) true Try.f5.params.toList args.toList ds p := hA0
  rw [Try.params5] at hA hval
  obtain ⟨v0, vs0, d0, ds0, p0, q0, hargs, rfl, rfl, h0, r0⟩ := trodAll_cons hA
  obtain ⟨v1, vs1, d1, ds1, p1, q1, rfl, rfl, rfl, h1, r1⟩ := trodAll_cons r0
  obtain ⟨rfl, rfl, rfl⟩ := trodAll_nil r1
  obtain rfl : args = #[v0, v1] := by cases args; simp_all
  obtain ⟨rfl, rfl⟩ := trodVars_none hV
  have k0 := h0
  have lt0 : ∀ x ∈ p0, x.block < W.heap.size := by obtain ⟨m, hm⟩ := k0; exact DataW.trod_lt m _ _ _ hm
  obtain ⟨x0, u0, xs0, rfl, wx0, rd0⟩ := shift_of_trod Try.underlying24 Try.underlying3 Try.underlying22 Try.underlying9 (by kernel_rfl) (by kernel_rfl) (by kernel_rfl) (hval 0 24 v0 rfl rfl) h0
  have k1 := h1
  have lt1 : ∀ x ∈ p1, x.block < W.heap.size := by obtain ⟨m, hm⟩ := k1; exact DataW.trod_lt m _ _ _ hm
  obtain ⟨a1, rfl, rfl, rfl, wf1⟩ := open_int Try.underlying3 (hval 1 3 v1 rfl rfl) h1
  clear hA0 hval0
  refine (exactCountWords_any x0 u0 xs0 a1 W wx0 rd0 wf1 (MaxC.of hsh)).mono fun e W' ⟨he, bel⟩ => ?_
  subst he
  exact ⟨_, rfl, _, _, _, [], _, [], hW', trodAll_mk1 (shut_bool Try.underlying4 _), (trodAll_cons_mk (Below.trod laidOut (by kernel_rfl) (of_decide_eq_true (by kernel_rfl)) k0 bel lt0) (trodAll_cons_mk (Below.trod laidOut (by kernel_rfl) (of_decide_eq_true (by kernel_rfl)) k1 bel lt1) trodAll_mk0)), rfl, Below.frame bel _, fun h => by cases h⟩

theorem fnExactCountWords_holds : Rows.FnExactCountWordsSaid :=
  OpenClaim.holds_of_wide 5 Try.f5 rfl rfl rfl rfl rfl rfl rfl ⟨rfl, rfl, rfl, rfl, rfl⟩ rfl rfl rfl rfl rfl (by kernel_rfl) Try.func5 (by show joinedFacts Try.prog 5 Try.f5 Rows.fnExactCountWordsSpec Rows.fnExactCountWordsRow = true; unfold joinedFacts; rw [mayEnter_it, liftsFinal_it, make_it]; kernel_rfl)
    (of_decide_eq_true (by kernel_rfl)) (by unfold Func.isWrapper; first | (rw [if_pos (by decide +kernel)]; kernel_rfl) | (rw [if_neg (by decide +kernel)]; exact ⟨rfl, rfl⟩))
    (fun os started H enc _ => fnExactCountWords_lifted os started H enc)
end Go.Proofs.Ytgbbidlbdjbilaa

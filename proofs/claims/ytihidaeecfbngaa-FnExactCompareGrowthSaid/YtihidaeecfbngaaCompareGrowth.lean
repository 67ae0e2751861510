/- For all arguments the law FnExactCompareGrowth returns true. No conditions. -/
import Derived.Test.YtihidaeecfbngaaLawRes
import Derived.Test.YtihidaeecfbngaaOpen
import Derived.Test.YtihidaeecfbngaaCmpA
namespace Go.Proofs.Ytihidaeecfbngaa
open Go.ChangeShapes Go.WideShapes Go.ChangeAt Go.RowKit Go.Mx

set_option maxRecDepth 100000 in
set_option maxHeartbeats 2000000 in
theorem exactCompareGrowth_of (v0 : Value) (m0 : List (List Int)) (v1 : Value) (m1 : List (List Int)) (x2 : Int) (y0 : Int) (w : World) (A0 : ReadsRows w v0 m0) (A1 : ReadsRows w v1 m1)
    (hspec : ∀ (w : World) (u0 : Value) (u1 : Value) (_ : ReadsRows w u0 m0) (_ : ReadsRows w u1 m1), Calls Try.prog 61 #[u0, u1, .int .i64 x2] w fun e w' => e = .returned (.int .i64 y0) ∧ Ext w w')
    (himpl : ∀ (w : World) (u0 : Value) (u1 : Value) (_ : ReadsRows w u0 m0) (_ : ReadsRows w u1 m1), Calls Try.prog 62 #[u0, u1, .int .i64 x2] w fun e w' => e = .returned (.int .i64 y0) ∧ Ext w w') :
    Calls Try.prog 19 #[v0, v1, .int .i64 x2] w fun e w' => e = .returned (.bool true) ∧ Ext w w' := by
  have HS := Lib.hid hspec
  have HI := Lib.hid himpl
  clear hspec himpl
  have E0 := Ext.refl w
  go_enter Try.func19, Try.ntmps19
  go_wp2_with fail
  with_reducible refine (szIntSS_any _ m0 _ _ (by omega) (by omega) A0).mono ?_
  rintro e w1 ⟨rfl, rfl⟩
  have hr0 := fun h => leftM_room (m := m0) (l := 1048576) (by omega) h
  have hl0 := leftM_le 1048576 m0 (by omega)
  obtain ⟨l0, hll0⟩ : ∃ l, l = leftM 1048576 m0 := ⟨_, rfl⟩
  rw [← hll0] at hr0 hl0 ⊢
  clear hll0
  by_cases hs0 : l0 < 0
  · clear hr0
    go_wp2_with fail
    go_ret
    exact ⟨rfl, E0⟩
  obtain ⟨L0, Z0⟩ := hr0 (by omega)
  clear hr0
  go_wp2_with fail
  with_reducible refine (szIntSS_any _ m1 _ _ (by omega) (by omega) A1).mono ?_
  rintro e w1 ⟨rfl, rfl⟩
  have hr1 := fun h => leftM_room (m := m1) (l := l0) (by omega) h
  have hl1 := leftM_le l0 m1 (by omega)
  obtain ⟨l1, hll1⟩ : ∃ l, l = leftM l0 m1 := ⟨_, rfl⟩
  rw [← hll1] at hr1 hl1 ⊢
  clear hll1
  by_cases hs1 : l1 < 0
  · clear hr1
    go_wp2_with fail
    go_ret
    exact ⟨rfl, E0⟩
  obtain ⟨L1, Z1⟩ := hr1 (by omega)
  clear hr1
  go_wp2_with fail
  with_reducible refine (toRes_any _ m0 _ (A0.ext E0) L0 Z0).mono ?_
  rintro e w1 ⟨rfl, T0, hy⟩
  have z1 := Lib.hid (show w.heap.size ≤ w1.heap.size from hy.size)
  replace E0 := E0.trans hy
  clear hy
  go_wp2_with fail
  with_reducible refine (toRes_any _ m1 _ (A1.ext E0) L1 Z1).mono ?_
  rintro e w2 ⟨rfl, T1, hy⟩
  have z2 := Lib.hid (show w1.heap.size ≤ w2.heap.size from hy.size)
  replace E0 := E0.trans hy
  replace T0 := T0.ext hy
  clear hy
  go_wp2_with fail
  with_reducible refine (HS.out _ _ _ T0.reads T1.reads).mono ?_
  rintro e w3 ⟨rfl, hy⟩
  clear T0
  clear T1
  have z3 := Lib.hid (show w2.heap.size ≤ w3.heap.size from hy.size)
  replace E0 := E0.trans hy
  clear hy
  go_wp2_with fail
  with_reducible refine (toRes_any _ m0 _ (A0.ext E0) L0 Z0).mono ?_
  rintro e w4 ⟨rfl, X0, hy⟩
  have z4 := Lib.hid (show w3.heap.size ≤ w4.heap.size from hy.size)
  replace E0 := E0.trans hy
  clear hy
  go_wp2_with fail
  with_reducible refine (toRes_any _ m1 _ (A1.ext E0) L1 Z1).mono ?_
  rintro e w5 ⟨rfl, X1, hy⟩
  have z5 := Lib.hid (show w4.heap.size ≤ w5.heap.size from hy.size)
  replace E0 := E0.trans hy
  replace X0 := X0.ext hy
  clear hy
  go_wp2_with fail
  with_reducible refine (HI.out _ _ _ X0.reads X1.reads).mono ?_
  rintro e w6 ⟨rfl, hy⟩
  have z6 := Lib.hid (show w5.heap.size ≤ w6.heap.size from hy.size)
  replace E0 := E0.trans hy
  replace X0 := X0.ext hy
  replace X1 := X1.ext hy
  clear hy
  go_wp2_with fail
  with_reducible refine (toRes_any _ m0 _ (A0.ext E0) L0 Z0).mono ?_
  rintro e w7 ⟨rfl, T0, hy⟩
  have z7 := Lib.hid (show w6.heap.size ≤ w7.heap.size from hy.size)
  replace E0 := E0.trans hy
  replace X0 := X0.ext hy
  replace X1 := X1.ext hy
  clear hy
  go_wp2_with fail
  with_reducible refine (eqIntSS_same _ _ m0 _ X0.reads T0.reads).mono ?_
  rintro e w8 ⟨rfl, hy⟩
  have z8 := Lib.hid (show w7.heap.size ≤ w8.heap.size from hy.size)
  replace E0 := E0.trans hy
  replace X0 := X0.ext hy
  replace X1 := X1.ext hy
  replace T0 := T0.ext hy
  clear hy
  clear T0
  go_wp2_with fail
  with_reducible refine (toRes_any _ m1 _ (A1.ext E0) L1 Z1).mono ?_
  rintro e w9 ⟨rfl, T1, hy⟩
  have z9 := Lib.hid (show w8.heap.size ≤ w9.heap.size from hy.size)
  replace E0 := E0.trans hy
  replace X0 := X0.ext hy
  replace X1 := X1.ext hy
  clear hy
  go_wp2_with fail
  with_reducible refine (eqIntSS_same _ _ m1 _ X1.reads T1.reads).mono ?_
  rintro e w10 ⟨rfl, hy⟩
  have z10 := Lib.hid (show w9.heap.size ≤ w10.heap.size from hy.size)
  replace E0 := E0.trans hy
  replace X0 := X0.ext hy
  replace X1 := X1.ext hy
  replace T1 := T1.ext hy
  clear hy
  clear T1
  go_wp2
  go_ret
  exact ⟨rfl, E0⟩

theorem exactCompareGrowth_any (v0 : Value) (m0 : List (List Int)) (v1 : Value) (m1 : List (List Int)) (x2 : Int) (w : World) (A0 : ReadsRows w v0 m0 ∧ ∀ xs ∈ m0, InI64 xs) (A1 : ReadsRows w v1 m1 ∧ ∀ xs ∈ m1, InI64 xs) (_ : (Lit.int .i64 x2).wf = true) :
    Calls Try.prog 19 #[v0, v1, .int .i64 x2] w fun e w' => e = .returned (.bool true) ∧ Ext w w' :=
  exactCompareGrowth_of v0 m0 v1 m1 x2 _ w A0.1 A1.1 (fun w u0 u1 h h' => spec_CompareGrowth_any u0 u1 m0 m1 x2 w h h') (fun w u0 u1 h h' => impl_CompareGrowth_any u0 u1 m0 m1 x2 w h h')

set_option maxRecDepth 100000 in
set_option linter.unusedVariables false in
theorem fnExactCompareGrowth_lifted (os : Os) (started : os.Started) (H : Type) (enc : TypeId × Value → H) :
    ReturnsInHanded {} Try.checked os 19 .any (Rows.fnExactCompareGrowthSpec.pre6 enc Try.prog Try.f19 Rows.fnExactCompareGrowthRow.domain false) (Rows.fnExactCompareGrowthSpec.post enc Try.prog Try.f19 false true false false) := by
  refine returnsInHanded_of_change (C := Try.checked) own started (by kernel_rfl) Try.func19
    (ChangeSpec.witness6 (enc := enc) (C := Try.checked) false ⟨#[], #[.slice none 0 0, .slice none 0 0, .int .i64 0], []⟩ 8 (by kernel_rfl) (by kernel_rfl) (by kernel_rfl) (by kernel_rfl)) ?_
  intro W base args ds gs before hval0 hW hcnd _
  have hval : ∀ (j : Nat) t v, Try.f19.params[j]? = some t → args[j]? = some v → Value.okWide Try.prog W .any base t v := hval0
  have hW' := hW
  obtain ⟨p, q, hA0, hV, rfl, hfz, hnd⟩ := hW
  have hA : DataW.TrodAll enc Try.prog W 0 (fun _ => true) true Try.f19.params.toList args.toList ds p := hA0
  rw [Try.params19] at hA hval
  obtain ⟨v0, vs0, d0, ds0, p0, q0, hargs, rfl, rfl, h0, r0⟩ := trodAll_cons hA
  obtain ⟨v1, vs1, d1, ds1, p1, q1, rfl, rfl, rfl, h1, r1⟩ := trodAll_cons r0
  obtain ⟨v2, vs2, d2, ds2, p2, q2, rfl, rfl, rfl, h2, r2⟩ := trodAll_cons r1
  obtain ⟨rfl, rfl, rfl⟩ := trodAll_nil r2
  obtain rfl : args = #[v0, v1, v2] := by cases args; simp_all
  obtain ⟨rfl, rfl⟩ := trodVars_none hV
  have k0 := h0
  have lt0 : ∀ x ∈ p0, x.block < W.heap.size := by obtain ⟨m, hm⟩ := k0; exact DataW.trod_lt m _ _ _ hm
  obtain ⟨xs0, rd0⟩ := rows_of_trod Try.underlying30 Try.underlying22 Try.underlying3 (by kernel_rfl) (by kernel_rfl) (hval 0 30 v0 rfl rfl) h0
  have k1 := h1
  have lt1 : ∀ x ∈ p1, x.block < W.heap.size := by obtain ⟨m, hm⟩ := k1; exact DataW.trod_lt m _ _ _ hm
  obtain ⟨xs1, rd1⟩ := rows_of_trod Try.underlying30 Try.underlying22 Try.underlying3 (by kernel_rfl) (by kernel_rfl) (hval 1 30 v1 rfl rfl) h1
  have k2 := h2
  have lt2 : ∀ x ∈ p2, x.block < W.heap.size := by obtain ⟨m, hm⟩ := k2; exact DataW.trod_lt m _ _ _ hm
  obtain ⟨a2, rfl, rfl, rfl, wf2⟩ := open_int Try.underlying3 (hval 2 3 v2 rfl rfl) h2
  clear hA0 hval0
  refine (exactCompareGrowth_any v0 xs0 v1 xs1 a2 W rd0 rd1 wf2).mono fun e W' ⟨he, bel⟩ => ?_
  subst he
  exact ⟨_, rfl, _, _, _, [], _, [], hW', trodAll_mk1 (shut_bool Try.underlying4 _), (trodAll_cons_mk (Below.trod laidOut (by kernel_rfl) (of_decide_eq_true (by kernel_rfl)) k0 bel lt0) (trodAll_cons_mk (Below.trod laidOut (by kernel_rfl) (of_decide_eq_true (by kernel_rfl)) k1 bel lt1) (trodAll_cons_mk (Below.trod laidOut (by kernel_rfl) (of_decide_eq_true (by kernel_rfl)) k2 bel lt2) trodAll_mk0))), rfl, Below.frame bel _, fun h => by cases h⟩

theorem fnExactCompareGrowth_holds : Rows.FnExactCompareGrowthSaid :=
  OpenClaim.holds_of_wide 19 Try.f19 rfl rfl rfl rfl rfl rfl rfl ⟨rfl, rfl, rfl, rfl, rfl⟩ rfl rfl rfl rfl rfl (by kernel_rfl) Try.func19 (by show joinedFacts Try.prog 19 Try.f19 Rows.fnExactCompareGrowthSpec Rows.fnExactCompareGrowthRow = true; unfold joinedFacts; rw [mayEnter_it, liftsFinal_it, make_it]; kernel_rfl)
    (of_decide_eq_true (by kernel_rfl)) (by unfold Func.isWrapper; first | (rw [if_pos (by decide +kernel)]; kernel_rfl) | (rw [if_neg (by decide +kernel)]; exact ⟨rfl, rfl⟩))
    (fun os started H enc _ => fnExactCompareGrowth_lifted os started H enc)
end Go.Proofs.Ytihidaeecfbngaa

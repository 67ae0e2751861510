/- For all arguments the law FnExactIsGrowthless returns true. No conditions. -/
import Derived.Test.YtihidaeecfbngaaLawRes
import Derived.Test.YtihidaeecfbngaaOpen
import Derived.Test.YtihidaeecfbngaaGrowA
namespace Go.Proofs.Ytihidaeecfbngaa
open Go.ChangeShapes Go.WideShapes Go.ChangeAt Go.RowKit Go.Mx

set_option maxRecDepth 100000 in
set_option maxHeartbeats 2000000 in
theorem exactIsGrowthless_of (v0 : Value) (m0 : List (List Int)) (y0 : Bool) (w : World) (A0 : ReadsRows w v0 m0)
    (hspec : ∀ (w : World) (u0 : Value) (_ : ReadsRows w u0 m0), Calls Try.prog 57 #[u0] w fun e w' => e = .returned (.bool y0) ∧ Ext w w')
    (himpl : ∀ (w : World) (u0 : Value) (_ : ReadsRows w u0 m0), Calls Try.prog 58 #[u0] w fun e w' => e = .returned (.bool y0) ∧ Ext w w') :
    Calls Try.prog 17 #[v0] w fun e w' => e = .returned (.bool true) ∧ Ext w w' := by
  have HS := Lib.hid hspec
  have HI := Lib.hid himpl
  clear hspec himpl
  have E0 := Ext.refl w
  go_enter Try.func17, Try.ntmps17
  go_wp2_with fail
  with_reducible refine (szIntSS_any _ m0 _ _ (by omega) (by omega) A0).mono ?_
  rintro e w1 ⟨rfl, rfl⟩
  have hr0 := fun h => leftM_room (m := m0) (l := 1048576) (by omega) h
  have hl0 := leftM_le 1048576 m0 (by omega)
  obtain ⟨l0, hll0⟩ : ∃ l, l = leftM 1048576 m0 := ⟨_, rfl⟩
  rw [← hll0] at hr0 hl0 ⊢
  clear hll0
  by_cases hs0 : l0 < 0
  · clear hr0
    go_wp2_with fail
    go_ret
    exact ⟨rfl, E0⟩
  obtain ⟨L0, Z0⟩ := hr0 (by omega)
  clear hr0
  go_wp2_with fail
  with_reducible refine (toRes_any _ m0 _ (A0.ext E0) L0 Z0).mono ?_
  rintro e w1 ⟨rfl, T0, hy⟩
  have z1 := Lib.hid (show w.heap.size ≤ w1.heap.size from hy.size)
  replace E0 := E0.trans hy
  clear hy
  go_wp2_with fail
  with_reducible refine (HS.out _ _ T0.reads).mono ?_
  rintro e w2 ⟨rfl, hy⟩
  clear T0
  have z2 := Lib.hid (show w1.heap.size ≤ w2.heap.size from hy.size)
  replace E0 := E0.trans hy
  clear hy
  go_wp2_with fail
  with_reducible refine (toRes_any _ m0 _ (A0.ext E0) L0 Z0).mono ?_
  rintro e w3 ⟨rfl, X0, hy⟩
  have z3 := Lib.hid (show w2.heap.size ≤ w3.heap.size from hy.size)
  replace E0 := E0.trans hy
  clear hy
  go_wp2_with fail
  with_reducible refine (HI.out _ _ X0.reads).mono ?_
  rintro e w4 ⟨rfl, hy⟩
  have z4 := Lib.hid (show w3.heap.size ≤ w4.heap.size from hy.size)
  replace E0 := E0.trans hy
  replace X0 := X0.ext hy
  clear hy
  go_wp2_with fail
  with_reducible refine (toRes_any _ m0 _ (A0.ext E0) L0 Z0).mono ?_
  rintro e w5 ⟨rfl, T0, hy⟩
  have z5 := Lib.hid (show w4.heap.size ≤ w5.heap.size from hy.size)
  replace E0 := E0.trans hy
  replace X0 := X0.ext hy
  clear hy
  go_wp2_with fail
  with_reducible refine (eqIntSS_same _ _ m0 _ X0.reads T0.reads).mono ?_
  rintro e w6 ⟨rfl, hy⟩
  have z6 := Lib.hid (show w5.heap.size ≤ w6.heap.size from hy.size)
  replace E0 := E0.trans hy
  replace X0 := X0.ext hy
  replace T0 := T0.ext hy
  clear hy
  clear T0
  go_wp2
  go_ret
  exact ⟨rfl, E0⟩

theorem exactIsGrowthless_any (v0 : Value) (m0 : List (List Int)) (w : World) (A0 : ReadsRows w v0 m0 ∧ ∀ xs ∈ m0, InI64 xs) :
    Calls Try.prog 17 #[v0] w fun e w' => e = .returned (.bool true) ∧ Ext w w' :=
  exactIsGrowthless_of v0 m0 _ w A0.1 (fun w u0 h => spec_IsGrowthless_any u0 m0 w h) (fun w u0 h => impl_IsGrowthless_any u0 m0 w h)

set_option maxRecDepth 100000 in
set_option linter.unusedVariables false in
theorem fnExactIsGrowthless_lifted (os : Os) (started : os.Started) (H : Type) (enc : TypeId × Value → H) :
    ReturnsInHanded {} Try.checked os 17 .any (Rows.fnExactIsGrowthlessSpec.pre6 enc Try.prog Try.f17 Rows.fnExactIsGrowthlessRow.domain false) (Rows.fnExactIsGrowthlessSpec.post enc Try.prog Try.f17 false true false false) := by
  refine returnsInHanded_of_change (C := Try.checked) own started (by kernel_rfl) Try.func17
    (ChangeSpec.witness6 (enc := enc) (C := Try.checked) false ⟨#[], #[.slice none 0 0], []⟩ 8 (by kernel_rfl) (by kernel_rfl) (by kernel_rfl) (by kernel_rfl)) ?_
  intro W base args ds gs before hval0 hW hcnd _
  have hval : ∀ (j : Nat) t v, Try.f17.params[j]? = some t → args[j]? = some v → Value.okWide Try.prog W .any base t v := hval0
  have hW' := hW
  obtain ⟨p, q, hA0, hV, rfl, hfz, hnd⟩ := hW
  have hA : DataW.TrodAll enc Try.prog W 0 (fun _ => true) true Try.f17.params.toList args.toList ds p := hA0
  rw [Try.params17] at hA hval
  obtain ⟨v0, vs0, d0, ds0, p0, q0, hargs, rfl, rfl, h0, r0⟩ := trodAll_cons hA
  obtain ⟨rfl, rfl, rfl⟩ := trodAll_nil r0
  obtain rfl : args = #[v0] := by cases args; simp_all
  obtain ⟨rfl, rfl⟩ := trodVars_none hV
  have k0 := h0
  have lt0 : ∀ x ∈ p0, x.block < W.heap.size := by obtain ⟨m, hm⟩ := k0; exact DataW.trod_lt m _ _ _ hm
  obtain ⟨xs0, rd0⟩ := rows_of_trod Try.underlying30 Try.underlying22 Try.underlying3 (by kernel_rfl) (by kernel_rfl) (hval 0 30 v0 rfl rfl) h0
  clear hA0 hval0
  refine (exactIsGrowthless_any v0 xs0 W rd0).mono fun e W' ⟨he, bel⟩ => ?_
  subst he
  exact ⟨_, rfl, _, _, _, [], _, [], hW', trodAll_mk1 (shut_bool Try.underlying4 _), (trodAll_cons_mk (Below.trod laidOut (by kernel_rfl) (of_decide_eq_true (by kernel_rfl)) k0 bel lt0) trodAll_mk0), rfl, Below.frame bel _, fun h => by cases h⟩

theorem fnExactIsGrowthless_holds : Rows.FnExactIsGrowthlessSaid :=
  OpenClaim.holds_of_wide 17 Try.f17 rfl rfl rfl rfl rfl rfl rfl ⟨rfl, rfl, rfl, rfl, rfl⟩ rfl rfl rfl rfl rfl (by kernel_rfl) Try.func17 (by show joinedFacts Try.prog 17 Try.f17 Rows.fnExactIsGrowthlessSpec Rows.fnExactIsGrowthlessRow = true; unfold joinedFacts; rw [mayEnter_it, liftsFinal_it, make_it]; kernel_rfl)
    (of_decide_eq_true (by kernel_rfl)) (by unfold Func.isWrapper; first | (rw [if_pos (by decide +kernel)]; kernel_rfl) | (rw [if_neg (by decide +kernel)]; exact ⟨rfl, rfl⟩))
    (fun os started H enc _ => fnExactIsGrowthless_lifted os started H enc)
end Go.Proofs.Ytihidaeecfbngaa

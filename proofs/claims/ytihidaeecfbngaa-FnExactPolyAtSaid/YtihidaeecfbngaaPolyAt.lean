/- For all arguments the law FnExactPolyAt returns true. No conditions. -/
import Derived.Test.YtihidaeecfbngaaLawRes
import Derived.Test.YtihidaeecfbngaaOpen
import Derived.Test.YtihidaeecfbngaaPolyB
namespace Go.Proofs.Ytihidaeecfbngaa
open Go.ChangeShapes Go.WideShapes Go.ChangeAt Go.RowKit Go.Mx

set_option maxRecDepth 100000 in
set_option maxHeartbeats 2000000 in
theorem exactPolyAt_of (v0 : Value) (m0 : List Int) (x1 : Int) (y0 : Int) (y1 : Bool) (w : World) (A0 : ReadsI w v0 m0)
    (hspec : ∀ (w : World) (u0 : Value) (_ : ReadsI w u0 m0), Calls Try.prog 20 #[u0, .int .i64 x1] w fun e w' => e = .returned (.tuple #[.int .i64 y0, .bool y1]) ∧ Ext w w')
    (himpl : ∀ (w : World) (u0 : Value) (_ : ReadsI w u0 m0), Calls Try.prog 22 #[u0, .int .i64 x1] w fun e w' => e = .returned (.tuple #[.int .i64 y0, .bool y1]) ∧ Ext w w') :
    Calls Try.prog 3 #[v0, .int .i64 x1] w fun e w' => e = .returned (.bool true) ∧ Ext w w' := by
  have HS := Lib.hid hspec
  have HI := Lib.hid himpl
  clear hspec himpl
  obtain ⟨a0, c0, rfl⟩ := A0.slice
  by_cases L0 : m0.length ≤ 1048576
  rotate_left
  · go_enter Try.func3, Try.ntmps3
    go_wp2
    go_ret
    exact ⟨rfl, Ext.refl _⟩
  have E0 := Ext.refl w
  go_enter Try.func3, Try.ntmps3
  go_wp2_with fail
  with_reducible refine (toResI_any _ m0 _ (A0.ext E0) L0).mono ?_
  rintro e w1 ⟨rfl, T0, hy⟩
  have z1 := Lib.hid (show w.heap.size ≤ w1.heap.size from hy.size)
  replace E0 := E0.trans hy
  clear hy
  go_wp2_with fail
  with_reducible refine (HS.out _ _ T0.reads).mono ?_
  rintro e w2 ⟨rfl, hy⟩
  clear T0
  have z2 := Lib.hid (show w1.heap.size ≤ w2.heap.size from hy.size)
  replace E0 := E0.trans hy
  clear hy
  go_wp2_with fail
  with_reducible refine (toResI_any _ m0 _ (A0.ext E0) L0).mono ?_
  rintro e w3 ⟨rfl, X0, hy⟩
  have z3 := Lib.hid (show w2.heap.size ≤ w3.heap.size from hy.size)
  replace E0 := E0.trans hy
  clear hy
  go_wp2_with fail
  with_reducible refine (HI.out _ _ X0.reads).mono ?_
  rintro e w4 ⟨rfl, hy⟩
  have z4 := Lib.hid (show w3.heap.size ≤ w4.heap.size from hy.size)
  replace E0 := E0.trans hy
  replace X0 := X0.ext hy
  clear hy
  go_wp2_with fail
  with_reducible refine (toResI_any _ m0 _ (A0.ext E0) L0).mono ?_
  rintro e w5 ⟨rfl, T0, hy⟩
  have z5 := Lib.hid (show w4.heap.size ≤ w5.heap.size from hy.size)
  replace E0 := E0.trans hy
  replace X0 := X0.ext hy
  clear hy
  go_wp2_with fail
  with_reducible refine (eqIntS_same _ _ m0 _ X0.reads T0.reads).mono ?_
  rintro e w6 ⟨rfl, hy⟩
  have z6 := Lib.hid (show w5.heap.size ≤ w6.heap.size from hy.size)
  replace E0 := E0.trans hy
  replace X0 := X0.ext hy
  replace T0 := T0.ext hy
  clear hy
  clear T0
  go_wp2
  go_ret
  exact ⟨rfl, E0⟩

theorem exactPolyAt_any (v0 : Value) (m0 : List Int) (x1 : Int) (w : World) (A0 : ReadsI w v0 m0 ∧ InI64 m0) (_ : (Lit.int .i64 x1).wf = true) :
    Calls Try.prog 3 #[v0, .int .i64 x1] w fun e w' => e = .returned (.bool true) ∧ Ext w w' :=
  exactPolyAt_of v0 m0 x1 _ _ w A0.1 (fun w u0 h => (spec_PolyAt_any u0 m0 x1 w h).mono fun _ _ ⟨h1, h2⟩ => ⟨h1, h2 ▸ Ext.refl _⟩) (fun w u0 h => (impl_PolyAt_any u0 m0 x1 w h).mono fun _ _ ⟨h1, h2⟩ => ⟨h1, h2 ▸ Ext.refl _⟩)

set_option maxRecDepth 100000 in
set_option linter.unusedVariables false in
theorem fnExactPolyAt_lifted (os : Os) (started : os.Started) (H : Type) (enc : TypeId × Value → H) :
    ReturnsInHanded {} Try.checked os 3 .any (Rows.fnExactPolyAtSpec.pre6 enc Try.prog Try.f3 Rows.fnExactPolyAtRow.domain false) (Rows.fnExactPolyAtSpec.post enc Try.prog Try.f3 false true false false) := by
  refine returnsInHanded_of_change (C := Try.checked) own started (by kernel_rfl) Try.func3
    (ChangeSpec.witness6 (enc := enc) (C := Try.checked) false ⟨#[], #[.slice none 0 0, .int .i64 0], []⟩ 8 (by kernel_rfl) (by kernel_rfl) (by kernel_rfl) (by kernel_rfl)) ?_
  intro W base args ds gs before hval0 hW hcnd _
  have hval : ∀ (j : Nat) t v, Try.f3.params[j]? = some t → args[j]? = some v → Value.okWide Try.prog W .any base t v := hval0
  have hW' := hW
  obtain ⟨p, q, hA0, hV, rfl, hfz, hnd⟩ := hW
  have hA : DataW.TrodAll enc Try.prog W 0 (fun _ => true) true Try.f3.params.toList args.toList ds p := hA0
  rw [Try.params3] at hA hval
  obtain ⟨v0, vs0, d0, ds0, p0, q0, hargs, rfl, rfl, h0, r0⟩ := trodAll_cons hA
  obtain ⟨v1, vs1, d1, ds1, p1, q1, rfl, rfl, rfl, h1, r1⟩ := trodAll_cons r0
  obtain ⟨rfl, rfl, rfl⟩ := trodAll_nil r1
  obtain rfl : args = #[v0, v1] := by cases args; simp_all
  obtain ⟨rfl, rfl⟩ := trodVars_none hV
  have k0 := h0
  have lt0 : ∀ x ∈ p0, x.block < W.heap.size := by obtain ⟨m, hm⟩ := k0; exact DataW.trod_lt m _ _ _ hm
  obtain ⟨xs0, rd0⟩ := ints_of_trod Try.underlying22 Try.underlying3 (by kernel_rfl) (hval 0 22 v0 rfl rfl) h0
  have k1 := h1
  have lt1 : ∀ x ∈ p1, x.block < W.heap.size := by obtain ⟨m, hm⟩ := k1; exact DataW.trod_lt m _ _ _ hm
  obtain ⟨a1, rfl, rfl, rfl, wf1⟩ := open_int Try.underlying3 (hval 1 3 v1 rfl rfl) h1
  clear hA0 hval0
  refine (exactPolyAt_any v0 xs0 a1 W rd0 wf1).mono fun e W' ⟨he, bel⟩ => ?_
  subst he
  exact ⟨_, rfl, _, _, _, [], _, [], hW', trodAll_mk1 (shut_bool Try.underlying4 _), (trodAll_cons_mk (Below.trod laidOut (by kernel_rfl) (of_decide_eq_true (by kernel_rfl)) k0 bel lt0) (trodAll_cons_mk (Below.trod laidOut (by kernel_rfl) (of_decide_eq_true (by kernel_rfl)) k1 bel lt1) trodAll_mk0)), rfl, Below.frame bel _, fun h => by cases h⟩

theorem fnExactPolyAt_holds : Rows.FnExactPolyAtSaid :=
  OpenClaim.holds_of_wide 3 Try.f3 rfl rfl rfl rfl rfl rfl rfl ⟨rfl, rfl, rfl, rfl, rfl⟩ rfl rfl rfl rfl rfl (by kernel_rfl) Try.func3 (by show joinedFacts Try.prog 3 Try.f3 Rows.fnExactPolyAtSpec Rows.fnExactPolyAtRow = true; unfold joinedFacts; rw [mayEnter_it, liftsFinal_it, make_it]; kernel_rfl)
    (of_decide_eq_true (by kernel_rfl)) (by unfold Func.isWrapper; first | (rw [if_pos (by decide +kernel)]; kernel_rfl) | (rw [if_neg (by decide +kernel)]; exact ⟨rfl, rfl⟩))
    (fun os started H enc _ => fnExactPolyAt_lifted os started H enc)
end Go.Proofs.Ytihidaeecfbngaa

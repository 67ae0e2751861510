/- For all arguments the law FnExactTurnedPoly returns true. No conditions. -/
import Derived.Test.YtihidaeecfbngaaLawRes
import Derived.Test.YtihidaeecfbngaaOpen
import Derived.Test.YtihidaeecfbngaaCharC
namespace Go.Proofs.Ytihidaeecfbngaa
open Go.ChangeShapes Go.WideShapes Go.ChangeAt Go.RowKit Go.Mx

set_option maxRecDepth 100000 in
set_option maxHeartbeats 2000000 in
theorem exactTurnedPoly_of (v0 : Value) (m0 : List (List Int)) (r : List Int) (w : World) (A0 : ReadsRows w v0 m0) (Zr : r.length ≤ 1000000000)
    (hspec : ∀ (w : World) (u0 : Value) (_ : ReadsRows w u0 m0), Calls Try.prog 59 #[u0] w fun e w' => ∃ g, e = .returned g ∧ ReadsI w' g r ∧ Ext w w')
    (himpl : ∀ (w : World) (u0 : Value) (_ : ReadsRows w u0 m0), Calls Try.prog 60 #[u0] w fun e w' => ∃ g, e = .returned g ∧ ResI w' w.heap.size g r ∧ Ext w w') :
    Calls Try.prog 18 #[v0] w fun e w' => e = .returned (.bool true) ∧ Ext w w' := by
  have HS := Lib.hid hspec
  have HI := Lib.hid himpl
  clear hspec himpl
  have E0 := Ext.refl w
  go_enter Try.func18, Try.ntmps18
  go_wp2_with fail
  with_reducible refine (szIntSS_any _ m0 _ _ (by omega) (by omega) A0).mono ?_
  rintro e w1 ⟨rfl, rfl⟩
  have hr0 := fun h => leftM_room (m := m0) (l := 1048576) (by omega) h
  have hl0 := leftM_le 1048576 m0 (by omega)
  obtain ⟨l0, hll0⟩ : ∃ l, l = leftM 1048576 m0 := ⟨_, rfl⟩
  rw [← hll0] at hr0 hl0 ⊢
  clear hll0
  by_cases hs0 : l0 < 0
  · clear hr0
    go_wp2_with fail
    go_ret
    exact ⟨rfl, E0⟩
  obtain ⟨L0, Z0⟩ := hr0 (by omega)
  clear hr0
  go_wp2_with fail
  with_reducible refine (toRes_any _ m0 _ (A0.ext E0) L0 Z0).mono ?_
  rintro e w1 ⟨rfl, T0, hy⟩
  have z1 := Lib.hid (show w.heap.size ≤ w1.heap.size from hy.size)
  replace E0 := E0.trans hy
  clear hy
  go_wp2_with fail
  with_reducible refine (HS.out _ _ T0.reads).mono ?_
  rintro e w2 ⟨w0v, rfl, W0, hy⟩
  clear T0
  have z2 := Lib.hid (show w1.heap.size ≤ w2.heap.size from hy.size)
  replace E0 := E0.trans hy
  clear hy
  have E1 := Ext.refl w2
  go_wp2_with fail
  with_reducible refine (toRes_any _ m0 _ (A0.ext E0) L0 Z0).mono ?_
  rintro e w3 ⟨rfl, X0, hy⟩
  have z3 := Lib.hid (show w2.heap.size ≤ w3.heap.size from hy.size)
  replace E0 := E0.trans hy
  replace E1 := E1.trans hy
  clear hy
  replace X0 := X0.bound
  go_wp2_with fail
  with_reducible refine (HI.out _ _ X0.reads).mono ?_
  rintro e w4 ⟨g0v, rfl, G0, hy⟩
  have z4 := Lib.hid (show w3.heap.size ≤ w4.heap.size from hy.size)
  replace E0 := E0.trans hy
  replace E1 := E1.trans hy
  replace X0 := X0.ext hy
  clear hy
  go_wp2_with fail
  with_reducible refine (eqIntS_same _ _ r _ G0.reads (W0.ext E1)).mono ?_
  rintro e w5 ⟨rfl, hy⟩
  have z5 := Lib.hid (show w4.heap.size ≤ w5.heap.size from hy.size)
  replace E0 := E0.trans hy
  replace E1 := E1.trans hy
  replace X0 := X0.ext hy
  replace G0 := G0.ext hy
  clear hy
  go_wp2_with fail
  with_reducible refine (toRes_any _ m0 _ (A0.ext E0) L0 Z0).mono ?_
  rintro e w6 ⟨rfl, T0, hy⟩
  have z6 := Lib.hid (show w5.heap.size ≤ w6.heap.size from hy.size)
  replace E0 := E0.trans hy
  replace E1 := E1.trans hy
  replace X0 := X0.ext hy
  replace G0 := G0.ext hy
  clear hy
  go_wp2_with fail
  with_reducible refine (eqIntSS_same _ _ m0 _ X0.reads T0.reads).mono ?_
  rintro e w7 ⟨rfl, hy⟩
  have z7 := Lib.hid (show w6.heap.size ≤ w7.heap.size from hy.size)
  replace E0 := E0.trans hy
  replace E1 := E1.trans hy
  replace X0 := X0.ext hy
  replace G0 := G0.ext hy
  replace T0 := T0.ext hy
  clear hy
  clear T0
  go_wp2_with fail
  with_reducible refine (markRes_any w2.heap.size w3.heap.size _ m0 (1) _ X0 (by omega) (by omega)).mono ?_
  rintro e w8 ⟨rfl, hk, -⟩
  clear X0
  have z8 := Lib.hid (show w7.heap.size ≤ w8.heap.size from hk.size)
  replace E0 := E0.within hk (by have a1 := z1.out; have a2 := z2.out; omega)
  replace E1 := E1.within hk (by omega)
  replace G0 := G0.within hk (by omega)
  clear hk
  go_wp2_with fail
  with_reducible refine (eqIntS_same _ _ r _ G0.reads (W0.ext E1)).mono ?_
  rintro e w9 ⟨rfl, hy⟩
  have z9 := Lib.hid (show w8.heap.size ≤ w9.heap.size from hy.size)
  replace E0 := E0.trans hy
  replace E1 := E1.trans hy
  replace G0 := G0.ext hy
  clear hy
  go_wp2_with fail
  with_reducible refine (markResI_any w3.heap.size w9.heap.size _ r 1 _ G0.bound (by omega) (by omega)).mono ?_
  rintro e w10 ⟨rfl, hk, GM⟩
  clear G0
  replace E0 := E0.within hk (by have a1 := z1.out; have a2 := z2.out; have a3 := z3.out; omega)
  replace E1 := E1.within hk (by have a3 := z3.out; omega)
  have z10 := Lib.hid (show w9.heap.size ≤ w10.heap.size from hk.size)
  clear hk
  go_wp2_with fail
  with_reducible refine (heldIntS_same _ r.length 1 _ GM.reads (by omega) (by omega)).mono ?_
  rintro e w11 ⟨rfl, rfl⟩
  go_wp2_with fail
  with_reducible refine (toRes_any _ m0 _ (A0.ext E0) L0 Z0).mono ?_
  rintro e w11 ⟨rfl, T0, hy⟩
  have z11 := Lib.hid (show w10.heap.size ≤ w11.heap.size from hy.size)
  replace E0 := E0.trans hy
  replace E1 := E1.trans hy
  replace GM := GM.ext hy
  clear hy
  go_wp2_with fail
  with_reducible refine (HI.out _ _ T0.reads).mono ?_
  rintro e w12 ⟨g1v, rfl, G1, hy⟩
  clear T0
  have z12 := Lib.hid (show w11.heap.size ≤ w12.heap.size from hy.size)
  replace E0 := E0.trans hy
  replace E1 := E1.trans hy
  replace GM := GM.ext hy
  clear hy
  go_wp2_with fail
  with_reducible refine (eqIntS_same _ _ r _ G1.reads (W0.ext E1)).mono ?_
  rintro e w13 ⟨rfl, hy⟩
  have z13 := Lib.hid (show w12.heap.size ≤ w13.heap.size from hy.size)
  replace E0 := E0.trans hy
  replace E1 := E1.trans hy
  replace GM := GM.ext hy
  replace G1 := G1.ext hy
  clear hy
  clear G1
  go_wp2_with fail
  with_reducible refine (heldIntS_same _ r.length 1 _ GM.reads (by omega) (by omega)).mono ?_
  rintro e w14 ⟨rfl, rfl⟩
  go_wp2
  go_ret
  exact ⟨rfl, E0⟩

theorem exactTurnedPoly_any (v0 : Value) (m0 : List (List Int)) (w : World) (A0 : ReadsRows w v0 m0 ∧ ∀ xs ∈ m0, InI64 xs) :
    Calls Try.prog 18 #[v0] w fun e w' => e = .returned (.bool true) ∧ Ext w w' :=
  exactTurnedPoly_of v0 m0 (tpV m0) w A0.1 (tpV_len m0) (fun w u0 h => spec_TurnedPoly_any u0 m0 w h) (fun w u0 h => impl_TurnedPoly_any u0 m0 w h)

set_option maxRecDepth 100000 in
set_option linter.unusedVariables false in
theorem fnExactTurnedPoly_lifted (os : Os) (started : os.Started) (H : Type) (enc : TypeId × Value → H) :
    ReturnsInHanded {} Try.checked os 18 .any (Rows.fnExactTurnedPolySpec.pre6 enc Try.prog Try.f18 Rows.fnExactTurnedPolyRow.domain false) (Rows.fnExactTurnedPolySpec.post enc Try.prog Try.f18 false true false false) := by
  refine returnsInHanded_of_change (C := Try.checked) own started (by kernel_rfl) Try.func18
    (ChangeSpec.witness6 (enc := enc) (C := Try.checked) false ⟨#[], #[.slice none 0 0], []⟩ 8 (by kernel_rfl) (by kernel_rfl) (by kernel_rfl) (by kernel_rfl)) ?_
  intro W base args ds gs before hval0 hW hcnd _
  have hval : ∀ (j : Nat) t v, Try.f18.params[j]? = some t → args[j]? = some v → Value.okWide Try.prog W .any base t v := hval0
  have hW' := hW
  obtain ⟨p, q, hA0, hV, rfl, hfz, hnd⟩ := hW
  have hA : DataW.TrodAll enc Try.prog W 0 (fun _ => true) true Try.f18.params.toList args.toList ds p := hA0
  rw [Try.params18] at hA hval
  obtain ⟨v0, vs0, d0, ds0, p0, q0, hargs, rfl, rfl, h0, r0⟩ := trodAll_cons hA
  obtain ⟨rfl, rfl, rfl⟩ := trodAll_nil r0
  obtain rfl : args = #[v0] := by cases args; simp_all
  obtain ⟨rfl, rfl⟩ := trodVars_none hV
  have k0 := h0
  have lt0 : ∀ x ∈ p0, x.block < W.heap.size := by obtain ⟨m, hm⟩ := k0; exact DataW.trod_lt m _ _ _ hm
  obtain ⟨xs0, rd0⟩ := rows_of_trod Try.underlying30 Try.underlying22 Try.underlying3 (by kernel_rfl) (by kernel_rfl) (hval 0 30 v0 rfl rfl) h0
  clear hA0 hval0
  refine (exactTurnedPoly_any v0 xs0 W rd0).mono fun e W' ⟨he, bel⟩ => ?_
  subst he
  exact ⟨_, rfl, _, _, _, [], _, [], hW', trodAll_mk1 (shut_bool Try.underlying4 _), (trodAll_cons_mk (Below.trod laidOut (by kernel_rfl) (of_decide_eq_true (by kernel_rfl)) k0 bel lt0) trodAll_mk0), rfl, Below.frame bel _, fun h => by cases h⟩

theorem fnExactTurnedPoly_holds : Rows.FnExactTurnedPolySaid :=
  OpenClaim.holds_of_wide 18 Try.f18 rfl rfl rfl rfl rfl rfl rfl ⟨rfl, rfl, rfl, rfl, rfl⟩ rfl rfl rfl rfl rfl (by kernel_rfl) Try.func18 (by show joinedFacts Try.prog 18 Try.f18 Rows.fnExactTurnedPolySpec Rows.fnExactTurnedPolyRow = true; unfold joinedFacts; rw [mayEnter_it, liftsFinal_it, make_it]; kernel_rfl)
    (of_decide_eq_true (by kernel_rfl)) (by unfold Func.isWrapper; first | (rw [if_pos (by decide +kernel)]; kernel_rfl) | (rw [if_neg (by decide +kernel)]; exact ⟨rfl, rfl⟩))
    (fun os started H enc _ => fnExactTurnedPoly_lifted os started H enc)
end Go.Proofs.Ytihidaeecfbngaa

/- For every code and both sides the law FnExactIsPermutive returns true. No conditions. -/
import Derived.Test.YtdempmpljekehaaPermB
import Derived.Test.YtdempmpljekehaaLawCode
import Derived.Test.YtdempmpljekehaaOpen
namespace Go.Proofs.Ytdempmpljekehaa
open Go.ChangeShapes Go.WideShapes Go.ChangeAt Go.RowKit Go.Cm
open Go.ChangeMaps (open_string shut_string)

set_option maxHeartbeats 1000000 in
theorem exactIsPermutive_of (L W : Int) (o : ByteArray) (s b : Bool) (w : World) (hos : o.size ≤ maxLen)
    (hspec : ∀ w, Calls Try.prog 44 #[.agg #[.int .i64 L, .int .i64 W, .string o], .bool s] w fun e w' => e = .returned (.bool b) ∧ Ext w w')
    (himpl : ∀ w, Calls Try.prog 43 #[.agg #[.int .i64 L, .int .i64 W, .string o], .bool s] w fun e w' => e = .returned (.bool b) ∧ Ext w w') :
    Calls Try.prog 8 #[.agg #[.int .i64 L, .int .i64 W, .string o], .bool s] w fun e w' => e = .returned (.bool true) ∧ Ext w w' := by
  have H1 := Lib.hid hspec
  have H2 := Lib.hid himpl
  clear hspec himpl
  go_enter Try.func8, Try.ntmps8
  go_wp2_with fail
  refine (szCode_any _ _ _ _ _ (by omega) (by omega) hos).mono ?_
  rintro e w1 ⟨rfl, hx⟩
  have bo := (show Blk _ w.heap.size #[.int .i64 L, .int .i64 W, .string o] by (repeat (first | (refine Blk.mk' ?_; (simp; done)) | apply Blk.old))).ext hx
  replace hx := (Ext.alloc _ _).trans hx
  obtain ⟨a0, a1, a2, -, -, -⟩ := bo.c3
  go_wp2_with fail
  · go_ret
    exact ⟨rfl, hx⟩
  refine (toCode_any _ _ _ _).mono ?_
  rintro e w2 ⟨rfl, hy⟩
  replace hx := hx.trans hy
  replace bo := bo.ext hy
  clear hy
  go_wp2_with fail
  refine (H1.out _).mono ?_
  rintro e w3 ⟨rfl, hy⟩
  replace hx := hx.trans hy
  replace bo := bo.ext hy
  clear hy a0 a1 a2
  obtain ⟨a0, a1, a2, -, -, -⟩ := bo.c3
  go_wp2_with fail
  refine (toCode_any _ _ _ _).mono ?_
  rintro e w4 ⟨rfl, hy⟩
  replace hx := hx.trans hy
  clear hy a0 a1 a2
  go_wp2_with fail
  refine (H2.out _).mono ?_
  rintro e w5 ⟨rfl, hy⟩
  replace hx := hx.trans hy
  clear hy
  go_wp2
  go_ret
  exact ⟨rfl, hx⟩

theorem exactIsPermutive_any (L W : Int) (o : ByteArray) (s : Bool) (w : World) (_ : -9223372036854775808 ≤ L ∧ L ≤ 9223372036854775807) (_ : -9223372036854775808 ≤ W ∧ W ≤ 9223372036854775807) (ho : o.size ≤ maxLen) :
    Calls Try.prog 8 #[.agg #[.int .i64 L, .int .i64 W, .string o], .bool s] w fun e w' => e = .returned (.bool true) ∧ Ext w w' := by
  cases h : codeOk L W o with
  | false => exact exactIsPermutive_of L W o s false w ho (fun w => spec_IsPermutive_no L W o s w ho h) (fun w => impl_IsPermutive_no L W o s w ho h)
  | true =>
    obtain ⟨K, n, rfl, rfl, hf⟩ := codeFit_of h
    have hn : n = (n - 1) + 1 := by have := hf.n1; omega
    exact exactIsPermutive_of K n o s _ w ho (fun w => spec_IsPermutive_yes K n (n - 1) o s w hn h hf) (fun w => impl_IsPermutive_yes K n (n - 1) o s w hn h hf)

set_option maxRecDepth 100000 in
set_option linter.unusedVariables false in
theorem fnExactIsPermutive_lifted (os : Os) (started : os.Started) (H : Type) (enc : TypeId × Value → H) :
    ReturnsInHanded {} Try.checked os 8 .any (Rows.fnExactIsPermutiveSpec.pre6 enc Try.prog Try.f8 Rows.fnExactIsPermutiveRow.domain false) (Rows.fnExactIsPermutiveSpec.post enc Try.prog Try.f8 false true false false) := by
  refine returnsInHanded_of_change (C := Try.checked) own started (by kernel_rfl) Try.func8
    (ChangeSpec.witness6 (enc := enc) (C := Try.checked) false ⟨#[], #[.agg #[.int .i64 0, .int .i64 0, .string ⟨#[]⟩], .bool false], []⟩ 8 (by kernel_rfl) (by kernel_rfl) (by kernel_rfl) (by kernel_rfl)) ?_
  intro W base args ds gs before hval0 hW hcnd _
  have hval : ∀ (j : Nat) t v, Try.f8.params[j]? = some t → args[j]? = some v → Value.okWide Try.prog W .any base t v := hval0
  have hW' := hW
  obtain ⟨p, q, hA0, hV, rfl, hfz, hnd⟩ := hW
  have hA : DataW.TrodAll enc Try.prog W 0 (fun _ => true) true Try.f8.params.toList args.toList ds p := hA0
  rw [Try.params8] at hA hval
  obtain ⟨v0, vs0, d0, ds0, p0, q0, hargs, rfl, rfl, h0, r0⟩ := trodAll_cons hA
  obtain ⟨v1, vs1, d1, ds1, p1, q1, rfl, rfl, rfl, h1, r1⟩ := trodAll_cons r0
  obtain ⟨rfl, rfl, rfl⟩ := trodAll_nil r1
  obtain rfl : args = #[v0, v1] := by cases args; simp_all
  obtain ⟨rfl, rfl⟩ := trodVars_none hV
  have k0 := h0
  have lt0 : ∀ x ∈ p0, x.block < W.heap.size := by obtain ⟨m, hm⟩ := k0; exact DataW.trod_lt m _ _ _ hm
  obtain ⟨x0, y0, a0, rfl, wx0, wy0, hs0⟩ := code_of_trod Try.underlying23 Try.underlying3 Try.underlying3 Try.underlying9 (by kernel_rfl) (by kernel_rfl) (hval 0 23 v0 rfl rfl) h0
  have k1 := h1
  have lt1 : ∀ x ∈ p1, x.block < W.heap.size := by obtain ⟨m, hm⟩ := k1; exact DataW.trod_lt m _ _ _ hm
  obtain ⟨a1, rfl, rfl, rfl⟩ := open_bool Try.underlying4 (hval 1 4 v1 rfl rfl) h1
  clear hA0 hval0
  refine (exactIsPermutive_any x0 y0 a0 a1 W wx0 wy0 hs0).mono fun e W' ⟨he, bel⟩ => ?_
  subst he
  exact ⟨_, rfl, _, _, _, [], _, [], hW', trodAll_mk1 (shut_bool Try.underlying4 _), (trodAll_cons_mk (Below.trod laidOut (by kernel_rfl) (of_decide_eq_true (by kernel_rfl)) k0 bel lt0) (trodAll_cons_mk (Below.trod laidOut (by kernel_rfl) (of_decide_eq_true (by kernel_rfl)) k1 bel lt1) trodAll_mk0)), rfl, Below.frame bel _, fun h => by cases h⟩

theorem fnExactIsPermutive_holds : Rows.FnExactIsPermutiveSaid :=
  OpenClaim.holds_of_wide 8 Try.f8 rfl rfl rfl rfl rfl rfl rfl ⟨rfl, rfl, rfl, rfl, rfl⟩ rfl rfl rfl rfl rfl (by kernel_rfl) Try.func8 (by show joinedFacts Try.prog 8 Try.f8 Rows.fnExactIsPermutiveSpec Rows.fnExactIsPermutiveRow = true; unfold joinedFacts; rw [mayEnter_it, liftsFinal_it, make_it]; kernel_rfl)
    (of_decide_eq_true (by kernel_rfl)) (by unfold Func.isWrapper; first | (rw [if_pos (by decide +kernel)]; kernel_rfl) | (rw [if_neg (by decide +kernel)]; exact ⟨rfl, rfl⟩))
    (fun os started H enc _ => fnExactIsPermutive_lifted os started H enc)
end Go.Proofs.Ytdempmpljekehaa

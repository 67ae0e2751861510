/- For every code the law FnExactTwinsOf returns true. No conditions. -/
import Derived.Test.YtdempmpljekehaaTwinC
import Derived.Test.YtdempmpljekehaaOpen
namespace Go.Proofs.Ytdempmpljekehaa
open Go.ChangeShapes Go.WideShapes Go.ChangeAt Go.RowKit Go.Cm
open Go.ChangeMaps (open_string shut_string)

set_option maxHeartbeats 1000000 in
theorem exactTwinsOf_of (L W : Int) (o x y : ByteArray) (b : Bool) (w : World) (ho : o.size ≤ maxLen)
    (hspec : ∀ w, Calls Try.prog 60 #[.agg #[.int .i64 L, .int .i64 W, .string o]] w fun e w' => e = .returned (.tuple #[.string x, .string y, .bool b]) ∧ Ext w w')
    (himpl : ∀ w, Calls Try.prog 61 #[.agg #[.int .i64 L, .int .i64 W, .string o]] w fun e w' => e = .returned (.tuple #[.string x, .string y, .bool b]) ∧ Ext w w') :
    Calls Try.prog 14 #[.agg #[.int .i64 L, .int .i64 W, .string o]] w fun e w' => e = .returned (.bool true) ∧ Ext w w' := by
  have H1 := Lib.hid hspec
  have H2 := Lib.hid himpl
  clear hspec himpl
  go_enter Try.func14, Try.ntmps14
  go_wp2_with fail
  with_reducible refine (szCode_any _ _ _ _ _ (by omega) (by omega) ho).mono ?_
  rintro e w1 ⟨rfl, hx⟩
  have ba := (show Blk _ w.heap.size #[.int .i64 L, .int .i64 W, .string o] by (repeat (first | (refine Blk.mk' ?_; (simp; done)) | apply Blk.old))).ext hx
  obtain ⟨a0, a1, a2, -, -, -⟩ := ba.c3
  replace hx := (Ext.alloc _ _).trans hx
  go_wp2_with fail
  · go_ret
    exact ⟨rfl, hx⟩
  with_reducible refine (toCode_any _ _ _ _).mono ?_
  rintro e w2 ⟨rfl, hy⟩
  replace hx := hx.trans hy
  replace ba := ba.ext hy
  clear hy a0 a1 a2
  obtain ⟨a0, a1, a2, -, -, -⟩ := ba.c3
  go_wp2_with fail
  with_reducible refine (H1.out _).mono ?_
  rintro e w3 ⟨rfl, hy⟩
  replace hx := hx.trans hy
  replace ba := ba.ext hy
  clear hy a0 a1 a2
  obtain ⟨a0, a1, a2, -, -, -⟩ := ba.c3
  go_wp2_with fail
  with_reducible refine (toCode_any _ _ _ _).mono ?_
  rintro e w4 ⟨rfl, hy⟩
  replace hx := hx.trans hy
  clear hy a0 a1 a2
  go_wp2_with fail
  with_reducible refine (H2.out _).mono ?_
  rintro e w5 ⟨rfl, hy⟩
  replace hx := hx.trans hy
  clear hy
  go_wp2
  go_ret
  exact ⟨rfl, hx⟩

theorem exactTwinsOf_any (L W : Int) (o : ByteArray) (w : World) (_ : -9223372036854775808 ≤ L ∧ L ≤ 9223372036854775807) (_ : -9223372036854775808 ≤ W ∧ W ≤ 9223372036854775807) (ho : o.size ≤ maxLen) :
    Calls Try.prog 14 #[.agg #[.int .i64 L, .int .i64 W, .string o]] w fun e w' => e = .returned (.bool true) ∧ Ext w w' := by
  cases h : (codeOk L W o && decide (L = 2)) with
  | false => exact exactTwinsOf_of L W o _ _ _ w ho (fun w => spec_TwinsOf_no L W o w ho h) (fun w => impl_TwinsOf_no L W o w ho h)
  | true =>
    simp only [Bool.and_eq_true, decide_eq_true_eq] at h
    obtain ⟨hc, rfl⟩ := h
    have hc' := hc
    obtain ⟨K, n, hK, rfl, hf⟩ := codeFit_of hc
    obtain rfl : K = 2 := by omega
    have h1 := fun w => spec_TwinsOf_yes n o w hf hc'
    have h2 := fun w => impl_TwinsOf_yes n o w hf hc'
    cases hr : twinL 2 n o with
    | none =>
      rw [hr] at h1 h2
      exact exactTwinsOf_of 2 n o _ _ _ w ho h1 h2
    | some p =>
      rw [hr] at h1 h2
      exact exactTwinsOf_of 2 n o _ _ _ w ho h1 h2

set_option maxRecDepth 100000 in
set_option linter.unusedVariables false in
theorem fnExactTwinsOf_lifted (os : Os) (started : os.Started) (H : Type) (enc : TypeId × Value → H) :
    ReturnsInHanded {} Try.checked os 14 .any (Rows.fnExactTwinsOfSpec.pre6 enc Try.prog Try.f14 Rows.fnExactTwinsOfRow.domain false) (Rows.fnExactTwinsOfSpec.post enc Try.prog Try.f14 false true false false) := by
  refine returnsInHanded_of_change (C := Try.checked) own started (by kernel_rfl) Try.func14
    (ChangeSpec.witness6 (enc := enc) (C := Try.checked) false ⟨#[], #[.agg #[.int .i64 0, .int .i64 0, .string ⟨#[]⟩]], []⟩ 8 (by kernel_rfl) (by kernel_rfl) (by kernel_rfl) (by kernel_rfl)) ?_
  intro W base args ds gs before hval0 hW hcnd _
  have hval : ∀ (j : Nat) t v, Try.f14.params[j]? = some t → args[j]? = some v → Value.okWide Try.prog W .any base t v := hval0
  have hW' := hW
  obtain ⟨p, q, hA0, hV, rfl, hfz, hnd⟩ := hW
  have hA : DataW.TrodAll enc Try.prog W 0 (fun _ => true) true Try.f14.params.toList args.toList ds p := hA0
  rw [Try.params14] at hA hval
  obtain ⟨v0, vs0, d0, ds0, p0, q0, hargs, rfl, rfl, h0, r0⟩ := trodAll_cons hA
  obtain ⟨rfl, rfl, rfl⟩ := trodAll_nil r0
  obtain rfl : args = #[v0] := by cases args; simp_all
  obtain ⟨rfl, rfl⟩ := trodVars_none hV
  have k0 := h0
  have lt0 : ∀ x ∈ p0, x.block < W.heap.size := by obtain ⟨m, hm⟩ := k0; exact DataW.trod_lt m _ _ _ hm
  obtain ⟨x0, y0, a0, rfl, wx0, wy0, hs0⟩ := code_of_trod Try.underlying23 Try.underlying3 Try.underlying3 Try.underlying9 (by kernel_rfl) (by kernel_rfl) (hval 0 23 v0 rfl rfl) h0
  clear hA0 hval0
  refine (exactTwinsOf_any x0 y0 a0 W wx0 wy0 hs0).mono fun e W' ⟨he, bel⟩ => ?_
  subst he
  exact ⟨_, rfl, _, _, _, [], _, [], hW', trodAll_mk1 (shut_bool Try.underlying4 _), (trodAll_cons_mk (Below.trod laidOut (by kernel_rfl) (of_decide_eq_true (by kernel_rfl)) k0 bel lt0) trodAll_mk0), rfl, Below.frame bel _, fun h => by cases h⟩

theorem fnExactTwinsOf_holds : Rows.FnExactTwinsOfSaid :=
  OpenClaim.holds_of_wide 14 Try.f14 rfl rfl rfl rfl rfl rfl rfl ⟨rfl, rfl, rfl, rfl, rfl⟩ rfl rfl rfl rfl rfl (by kernel_rfl) Try.func14 (by show joinedFacts Try.prog 14 Try.f14 Rows.fnExactTwinsOfSpec Rows.fnExactTwinsOfRow = true; unfold joinedFacts; rw [mayEnter_it, liftsFinal_it, make_it]; kernel_rfl)
    (of_decide_eq_true (by kernel_rfl)) (by unfold Func.isWrapper; first | (rw [if_pos (by decide +kernel)]; kernel_rfl) | (rw [if_neg (by decide +kernel)]; exact ⟨rfl, rfl⟩))
    (fun os started H enc _ => fnExactTwinsOf_lifted os started H enc)
end Go.Proofs.Ytdempmpljekehaa

/- For every code and every number the law FnExactIsBalanced returns true. No conditions. -/
import Derived.Test.YtdempmpljekehaaBalA
import Derived.Test.YtdempmpljekehaaOpen
namespace Go.Proofs.Ytdempmpljekehaa
open Go.ChangeShapes Go.WideShapes Go.ChangeAt Go.RowKit Go.Cm
open Go.ChangeMaps (open_string shut_string)

set_option maxHeartbeats 1000000 in
theorem exactIsBalanced_of (L W m : Int) (b : Bool) (o : ByteArray) (w : World) (hos : o.size ≤ maxLen)
    (hspec : ∀ w, Calls Try.prog 62 #[.agg #[.int .i64 L, .int .i64 W, .string o], .int .i64 m] w fun e w' => e = .returned (.bool b) ∧ Ext w w')
    (himpl : ∀ w, Calls Try.prog 63 #[.agg #[.int .i64 L, .int .i64 W, .string o], .int .i64 m] w fun e w' => e = .returned (.bool b) ∧ Ext w w') :
    Calls Try.prog 15 #[.agg #[.int .i64 L, .int .i64 W, .string o], .int .i64 m] w fun e w' => e = .returned (.bool true) ∧ Ext w w' := by
  have H1 := Lib.hid hspec
  have H2 := Lib.hid himpl
  clear hspec himpl
  go_enter Try.func15, Try.ntmps15
  go_wp2_with fail
  refine (szCode_any _ _ _ _ _ (by omega) (by omega) hos).mono ?_
  rintro e w1 ⟨rfl, hx⟩
  have a0 : w1.cell? ⟨w.heap.size, 0, none⟩ = some (.int .i64 L) := hx.cell_some (by simp)
  have a1 : w1.cell? ⟨w.heap.size, 1, none⟩ = some (.int .i64 W) := hx.cell_some (by simp)
  have a2 : w1.cell? ⟨w.heap.size, 2, none⟩ = some (.string o) := hx.cell_some (by simp)
  replace hx := (Ext.alloc _ _).trans hx
  go_wp2_with fail
  · go_ret
    exact ⟨rfl, hx⟩
  refine (toCode_any _ _ _ _).mono ?_
  rintro e w2 ⟨rfl, hy⟩
  replace hx := hx.trans hy
  replace a0 := hy.cell_some a0
  replace a1 := hy.cell_some a1
  replace a2 := hy.cell_some a2
  clear hy
  go_wp2_with fail
  refine (H1.out _).mono ?_
  rintro e w3 ⟨rfl, hy⟩
  replace hx := hx.trans hy
  replace a0 := hy.cell_some a0
  replace a1 := hy.cell_some a1
  replace a2 := hy.cell_some a2
  clear hy
  go_wp2_with fail
  refine (toCode_any _ _ _ _).mono ?_
  rintro e w4 ⟨rfl, hy⟩
  replace hx := hx.trans hy
  clear hy a0 a1 a2
  go_wp2_with fail
  refine (H2.out _).mono ?_
  rintro e w5 ⟨rfl, hy⟩
  replace hx := hx.trans hy
  clear hy
  go_wp2
  go_ret
  exact ⟨rfl, hx⟩

theorem exactIsBalanced_any (L W : Int) (o : ByteArray) (m : Int) (w : World) (_ : -9223372036854775808 ≤ L ∧ L ≤ 9223372036854775807) (_ : -9223372036854775808 ≤ W ∧ W ≤ 9223372036854775807) (ho : o.size ≤ maxLen) (_ : (Lit.int .i64 m).wf = true) :
    Calls Try.prog 15 #[.agg #[.int .i64 L, .int .i64 W, .string o], .int .i64 m] w fun e w' => e = .returned (.bool true) ∧ Ext w w' := by
  cases h : (codeOk L W o && (decide (0 ≤ m) && decide (m ≤ 5))) with
  | false => exact exactIsBalanced_of L W m _ o w ho (fun w => spec_IsBalanced_no L W m o w ho h) (fun w => impl_IsBalanced_no L W m o w ho h)
  | true =>
    simp only [Bool.and_eq_true, decide_eq_true_eq] at h
    obtain ⟨hc, h0, h5⟩ := h
    obtain ⟨K, n, rfl, rfl, hf⟩ := codeFit_of hc
    obtain ⟨m, rfl⟩ := Int.eq_ofNat_of_zero_le h0
    exact exactIsBalanced_of K n m _ o w ho (fun w => spec_IsBalanced_yes K n m o w hc hf (by omega)) (fun w => impl_IsBalanced_yes K n m o w hc hf (by omega))

set_option maxRecDepth 100000 in
set_option linter.unusedVariables false in
theorem fnExactIsBalanced_lifted (os : Os) (started : os.Started) (H : Type) (enc : TypeId × Value → H) :
    ReturnsInHanded {} Try.checked os 15 .any (Rows.fnExactIsBalancedSpec.pre6 enc Try.prog Try.f15 Rows.fnExactIsBalancedRow.domain false) (Rows.fnExactIsBalancedSpec.post enc Try.prog Try.f15 false true false false) := by
  refine returnsInHanded_of_change (C := Try.checked) own started (by kernel_rfl) Try.func15
    (ChangeSpec.witness6 (enc := enc) (C := Try.checked) false ⟨#[], #[.agg #[.int .i64 0, .int .i64 0, .string ⟨#[]⟩], .int .i64 0], []⟩ 8 (by kernel_rfl) (by kernel_rfl) (by kernel_rfl) (by kernel_rfl)) ?_
  intro W base args ds gs before hval0 hW hcnd _
  have hval : ∀ (j : Nat) t v, Try.f15.params[j]? = some t → args[j]? = some v → Value.okWide Try.prog W .any base t v := hval0
  have hW' := hW
  obtain ⟨p, q, hA0, hV, rfl, hfz, hnd⟩ := hW
  have hA : DataW.TrodAll enc Try.prog W 0 (fun _ => true) true Try.f15.params.toList args.toList ds p := hA0
  rw [Try.params15] at hA hval
  obtain ⟨v0, vs0, d0, ds0, p0, q0, hargs, rfl, rfl, h0, r0⟩ := trodAll_cons hA
  obtain ⟨v1, vs1, d1, ds1, p1, q1, rfl, rfl, rfl, h1, r1⟩ := trodAll_cons r0
  obtain ⟨rfl, rfl, rfl⟩ := trodAll_nil r1
  obtain rfl : args = #[v0, v1] := by cases args; simp_all
  obtain ⟨rfl, rfl⟩ := trodVars_none hV
  have k0 := h0
  have lt0 : ∀ x ∈ p0, x.block < W.heap.size := by obtain ⟨m, hm⟩ := k0; exact DataW.trod_lt m _ _ _ hm
  obtain ⟨x0, y0, a0, rfl, wx0, wy0, hs0⟩ := code_of_trod Try.underlying23 Try.underlying3 Try.underlying3 Try.underlying9 (by kernel_rfl) (by kernel_rfl) (hval 0 23 v0 rfl rfl) h0
  have k1 := h1
  have lt1 : ∀ x ∈ p1, x.block < W.heap.size := by obtain ⟨m, hm⟩ := k1; exact DataW.trod_lt m _ _ _ hm
  obtain ⟨a1, rfl, rfl, rfl, wf1⟩ := open_int Try.underlying3 (hval 1 3 v1 rfl rfl) h1
  clear hA0 hval0
  refine (exactIsBalanced_any x0 y0 a0 a1 W wx0 wy0 hs0 wf1).mono fun e W' ⟨he, bel⟩ => ?_
  subst he
  exact ⟨_, rfl, _, _, _, [], _, [], hW', trodAll_mk1 (shut_bool Try.underlying4 _), (trodAll_cons_mk (Below.trod laidOut (by kernel_rfl) (of_decide_eq_true (by kernel_rfl)) k0 bel lt0) (trodAll_cons_mk (Below.trod laidOut (by kernel_rfl) (of_decide_eq_true (by kernel_rfl)) k1 bel lt1) trodAll_mk0)), rfl, Below.frame bel _, fun h => by cases h⟩

theorem fnExactIsBalanced_holds : Rows.FnExactIsBalancedSaid :=
  OpenClaim.holds_of_wide 15 Try.f15 rfl rfl rfl rfl rfl rfl rfl ⟨rfl, rfl, rfl, rfl, rfl⟩ rfl rfl rfl rfl rfl (by kernel_rfl) Try.func15 (by show joinedFacts Try.prog 15 Try.f15 Rows.fnExactIsBalancedSpec Rows.fnExactIsBalancedRow = true; unfold joinedFacts; rw [mayEnter_it, liftsFinal_it, make_it]; kernel_rfl)
    (of_decide_eq_true (by kernel_rfl)) (by unfold Func.isWrapper; first | (rw [if_pos (by decide +kernel)]; kernel_rfl) | (rw [if_neg (by decide +kernel)]; exact ⟨rfl, rfl⟩))
    (fun os started H enc _ => fnExactIsBalanced_lifted os started H enc)
end Go.Proofs.Ytdempmpljekehaa

/- For every code the law FnExactFirstOrphan returns true. No conditions. -/
import Derived.Test.YtdempmpljekehaaOrphD
import Derived.Test.YtdempmpljekehaaOpen
namespace Go.Proofs.Ytdempmpljekehaa
open Go.ChangeShapes Go.WideShapes Go.ChangeAt Go.RowKit Go.Cm
open Go.ChangeMaps (open_string shut_string)

set_option maxHeartbeats 1000000 in
theorem exactFirstOrphan_of (L W : Int) (r : ByteArray) (b : Bool) (o : ByteArray) (w : World) (hos : o.size ≤ maxLen)
    (hspec : ∀ w, Calls Try.prog 56 #[.agg #[.int .i64 L, .int .i64 W, .string o]] w fun e w' => e = .returned (.tuple #[.string r, .bool b]) ∧ Ext w w')
    (himpl : ∀ w, Calls Try.prog 57 #[.agg #[.int .i64 L, .int .i64 W, .string o]] w fun e w' => e = .returned (.tuple #[.string r, .bool b]) ∧ Ext w w') :
    Calls Try.prog 12 #[.agg #[.int .i64 L, .int .i64 W, .string o]] w fun e w' => e = .returned (.bool true) ∧ Ext w w' := by
  have H1 := Lib.hid hspec
  have H2 := Lib.hid himpl
  clear hspec himpl
  go_enter Try.func12, Try.ntmps12
  go_wp2_with fail
  refine (szCode_any _ _ _ _ _ (by omega) (by omega) hos).mono ?_
  rintro e w1 ⟨rfl, hx⟩
  have a0 : w1.cell? ⟨w.heap.size, 0, none⟩ = some (.int .i64 L) := hx.cell_some (by simp)
  have a1 : w1.cell? ⟨w.heap.size, 1, none⟩ = some (.int .i64 W) := hx.cell_some (by simp)
  have a2 : w1.cell? ⟨w.heap.size, 2, none⟩ = some (.string o) := hx.cell_some (by simp)
  replace hx := (Ext.alloc _ _).trans hx
  go_wp2_with fail
  · go_ret
    exact ⟨rfl, hx⟩
  refine (toCode_any _ _ _ _).mono ?_
  rintro e w2 ⟨rfl, hy⟩
  replace hx := hx.trans hy
  replace a0 := hy.cell_some a0
  replace a1 := hy.cell_some a1
  replace a2 := hy.cell_some a2
  clear hy
  go_wp2_with fail
  refine (H1.out _).mono ?_
  rintro e w3 ⟨rfl, hy⟩
  replace hx := hx.trans hy
  replace a0 := hy.cell_some a0
  replace a1 := hy.cell_some a1
  replace a2 := hy.cell_some a2
  clear hy
  go_wp2_with fail
  refine (toCode_any _ _ _ _).mono ?_
  rintro e w4 ⟨rfl, hy⟩
  replace hx := hx.trans hy
  clear hy a0 a1 a2
  go_wp2_with fail
  refine (H2.out _).mono ?_
  rintro e w5 ⟨rfl, hy⟩
  replace hx := hx.trans hy
  clear hy
  go_wp2
  go_ret
  exact ⟨rfl, hx⟩

theorem exactFirstOrphan_any (L W : Int) (o : ByteArray) (w : World) (_ : -9223372036854775808 ≤ L ∧ L ≤ 9223372036854775807) (_ : -9223372036854775808 ≤ W ∧ W ≤ 9223372036854775807) (ho : o.size ≤ maxLen) :
    Calls Try.prog 12 #[.agg #[.int .i64 L, .int .i64 W, .string o]] w fun e w' => e = .returned (.bool true) ∧ Ext w w' := by
  cases h : codeOk L W o with
  | false => exact exactFirstOrphan_of L W _ _ o w ho (fun w => spec_FirstOrphan_no L W o w ho h) (fun w => impl_FirstOrphan_no L W o w ho h)
  | true =>
    obtain ⟨K, n, rfl, rfl, hf⟩ := codeFit_of h
    obtain ⟨m, hm⟩ : ∃ m, n = m + 1 := ⟨n - 1, by have := hf.n1; omega⟩
    exact exactFirstOrphan_of K n _ _ o w ho (fun w => spec_FirstOrphan_yes K n m _ o w h hf hm rfl) (fun w => impl_FirstOrphan_yes K n m _ o w h hf hm rfl)

set_option maxRecDepth 100000 in
set_option linter.unusedVariables false in
theorem fnExactFirstOrphan_lifted (os : Os) (started : os.Started) (H : Type) (enc : TypeId × Value → H) :
    ReturnsInHanded {} Try.checked os 12 .any (Rows.fnExactFirstOrphanSpec.pre6 enc Try.prog Try.f12 Rows.fnExactFirstOrphanRow.domain false) (Rows.fnExactFirstOrphanSpec.post enc Try.prog Try.f12 false true false false) := by
  refine returnsInHanded_of_change (C := Try.checked) own started (by kernel_rfl) Try.func12
    (ChangeSpec.witness6 (enc := enc) (C := Try.checked) false ⟨#[], #[.agg #[.int .i64 0, .int .i64 0, .string ⟨#[]⟩]], []⟩ 8 (by kernel_rfl) (by kernel_rfl) (by kernel_rfl) (by kernel_rfl)) ?_
  intro W base args ds gs before hval0 hW hcnd _
  have hval : ∀ (j : Nat) t v, Try.f12.params[j]? = some t → args[j]? = some v → Value.okWide Try.prog W .any base t v := hval0
  have hW' := hW
  obtain ⟨p, q, hA0, hV, rfl, hfz, hnd⟩ := hW
  have hA : DataW.TrodAll enc Try.prog W 0 (fun _ => true) true Try.f12.params.toList args.toList ds p := hA0
  rw [Try.params12] at hA hval
  obtain ⟨v0, vs0, d0, ds0, p0, q0, hargs, rfl, rfl, h0, r0⟩ := trodAll_cons hA
  obtain ⟨rfl, rfl, rfl⟩ := trodAll_nil r0
  obtain rfl : args = #[v0] := by cases args; simp_all
  obtain ⟨rfl, rfl⟩ := trodVars_none hV
  have k0 := h0
  have lt0 : ∀ x ∈ p0, x.block < W.heap.size := by obtain ⟨m, hm⟩ := k0; exact DataW.trod_lt m _ _ _ hm
  obtain ⟨x0, y0, a0, rfl, wx0, wy0, hs0⟩ := code_of_trod Try.underlying23 Try.underlying3 Try.underlying3 Try.underlying9 (by kernel_rfl) (by kernel_rfl) (hval 0 23 v0 rfl rfl) h0
  clear hA0 hval0
  refine (exactFirstOrphan_any x0 y0 a0 W wx0 wy0 hs0).mono fun e W' ⟨he, bel⟩ => ?_
  subst he
  exact ⟨_, rfl, _, _, _, [], _, [], hW', trodAll_mk1 (shut_bool Try.underlying4 _), (trodAll_cons_mk (Below.trod laidOut (by kernel_rfl) (of_decide_eq_true (by kernel_rfl)) k0 bel lt0) trodAll_mk0), rfl, Below.frame bel _, fun h => by cases h⟩

theorem fnExactFirstOrphan_holds : Rows.FnExactFirstOrphanSaid :=
  OpenClaim.holds_of_wide 12 Try.f12 rfl rfl rfl rfl rfl rfl rfl ⟨rfl, rfl, rfl, rfl, rfl⟩ rfl rfl rfl rfl rfl (by kernel_rfl) Try.func12 (by show joinedFacts Try.prog 12 Try.f12 Rows.fnExactFirstOrphanSpec Rows.fnExactFirstOrphanRow = true; unfold joinedFacts; rw [mayEnter_it, liftsFinal_it, make_it]; kernel_rfl)
    (of_decide_eq_true (by kernel_rfl)) (by unfold Func.isWrapper; first | (rw [if_pos (by decide +kernel)]; kernel_rfl) | (rw [if_neg (by decide +kernel)]; exact ⟨rfl, rfl⟩))
    (fun os started H enc _ => fnExactFirstOrphan_lifted os started H enc)
end Go.Proofs.Ytdempmpljekehaa

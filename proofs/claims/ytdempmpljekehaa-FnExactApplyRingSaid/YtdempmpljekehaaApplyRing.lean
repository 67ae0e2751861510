/- For every code and every text the law FnExactApplyRing returns true. No conditions. -/
import Derived.Test.YtdempmpljekehaaRingB
import Derived.Test.YtdempmpljekehaaOpen
namespace Go.Proofs.Ytdempmpljekehaa
open Go.ChangeShapes Go.WideShapes Go.ChangeAt Go.RowKit Go.Cm
open Go.ChangeMaps (open_string shut_string)

set_option maxHeartbeats 1000000 in
theorem exactApplyRing_of (L W : Int) (r : ByteArray) (b : Bool) (o s : ByteArray) (w : World) (hos : o.size ≤ maxLen) (hss : s.size ≤ maxLen)
    (hspec : ∀ w, Calls Try.prog 64 #[.agg #[.int .i64 L, .int .i64 W, .string o], .string s] w fun e w' => e = .returned (.tuple #[.string r, .bool b]) ∧ Ext w w')
    (himpl : ∀ w, Calls Try.prog 65 #[.agg #[.int .i64 L, .int .i64 W, .string o], .string s] w fun e w' => e = .returned (.tuple #[.string r, .bool b]) ∧ Ext w w') :
    Calls Try.prog 19 #[.agg #[.int .i64 L, .int .i64 W, .string o], .string s] w fun e w' => e = .returned (.bool true) ∧ Ext w w' := by
  have H1 := Lib.hid hspec
  have H2 := Lib.hid himpl
  have hs' : s.size ≤ 9223372036854775807 := by unfold maxLen at hss; omega
  clear hspec himpl hss
  go_enter Try.func19, Try.ntmps19
  go_wp2_with fail
  · go_ret
    exact ⟨rfl, Ext.alloc _ _⟩
  refine (szCode_any _ _ _ _ _ (by omega) (by omega) hos).mono ?_
  rintro e w1 ⟨rfl, hx⟩
  have a0 : w1.cell? ⟨w.heap.size, 0, none⟩ = some (.int .i64 L) := hx.cell_some (by simp)
  have a1 : w1.cell? ⟨w.heap.size, 1, none⟩ = some (.int .i64 W) := hx.cell_some (by simp)
  have a2 : w1.cell? ⟨w.heap.size, 2, none⟩ = some (.string o) := hx.cell_some (by simp)
  replace hx := (Ext.alloc _ _).trans hx
  go_wp2_with fail
  · go_ret
    exact ⟨rfl, hx⟩
  refine (toCode_any _ _ _ _).mono ?_
  rintro e w2 ⟨rfl, hy⟩
  replace hx := hx.trans hy
  replace a0 := hy.cell_some a0
  replace a1 := hy.cell_some a1
  replace a2 := hy.cell_some a2
  clear hy
  go_wp2_with fail
  refine (H1.out _).mono ?_
  rintro e w3 ⟨rfl, hy⟩
  replace hx := hx.trans hy
  replace a0 := hy.cell_some a0
  replace a1 := hy.cell_some a1
  replace a2 := hy.cell_some a2
  clear hy
  go_wp2_with fail
  refine (toCode_any _ _ _ _).mono ?_
  rintro e w4 ⟨rfl, hy⟩
  replace hx := hx.trans hy
  clear hy a0 a1 a2
  go_wp2_with fail
  refine (H2.out _).mono ?_
  rintro e w5 ⟨rfl, hy⟩
  replace hx := hx.trans hy
  clear hy
  go_wp2
  go_ret
  exact ⟨rfl, hx⟩

theorem exactApplyRing_any (L W : Int) (o s : ByteArray) (w : World) (_ : -9223372036854775808 ≤ L ∧ L ≤ 9223372036854775807) (_ : -9223372036854775808 ≤ W ∧ W ≤ 9223372036854775807) (ho : o.size ≤ maxLen) (hs : s.size ≤ maxLen) :
    Calls Try.prog 19 #[.agg #[.int .i64 L, .int .i64 W, .string o], .string s] w fun e w' => e = .returned (.bool true) ∧ Ext w w' := by
  cases h : ringOk L W o s with
  | false => exact exactApplyRing_of L W _ _ o s w ho hs (fun w => spec_ApplyRing_no L W o s w ho hs h) (fun w => impl_ApplyRing_no L W o s w ho hs h)
  | true =>
    simp only [ringOk, Bool.and_eq_true, decide_eq_true_eq] at h
    obtain ⟨hc, hw, h1⟩ := h
    have hc' := hc
    obtain ⟨K, n, rfl, rfl, hf⟩ := codeFit_of hc
    exact exactApplyRing_of K n _ _ o s w ho hs (fun w => spec_ApplyRing_yes K n o s w hc' hf hw h1) (fun w => impl_ApplyRing_yes K n o s w hc' hf hw h1)

set_option maxRecDepth 100000 in
set_option linter.unusedVariables false in
theorem fnExactApplyRing_lifted (os : Os) (started : os.Started) (H : Type) (enc : TypeId × Value → H) :
    ReturnsInHanded {} Try.checked os 19 .any (Rows.fnExactApplyRingSpec.pre6 enc Try.prog Try.f19 Rows.fnExactApplyRingRow.domain false) (Rows.fnExactApplyRingSpec.post enc Try.prog Try.f19 false true false false) := by
  refine returnsInHanded_of_change (C := Try.checked) own started (by kernel_rfl) Try.func19
    (ChangeSpec.witness6 (enc := enc) (C := Try.checked) false ⟨#[], #[.agg #[.int .i64 0, .int .i64 0, .string ⟨#[]⟩], .string ⟨#[]⟩], []⟩ 8 (by kernel_rfl) (by kernel_rfl) (by kernel_rfl) (by kernel_rfl)) ?_
  intro W base args ds gs before hval0 hW hcnd _
  have hval : ∀ (j : Nat) t v, Try.f19.params[j]? = some t → args[j]? = some v → Value.okWide Try.prog W .any base t v := hval0
  have hW' := hW
  obtain ⟨p, q, hA0, hV, rfl, hfz, hnd⟩ := hW
  have hA : DataW.TrodAll enc Try.prog W 0 (fun _ => true) true Try.f19.params.toList args.toList ds p := hA0
  rw [Try.params19] at hA hval
  obtain ⟨v0, vs0, d0, ds0, p0, q0, hargs, rfl, rfl, h0, r0⟩ := trodAll_cons hA
  obtain ⟨v1, vs1, d1, ds1, p1, q1, rfl, rfl, rfl, h1, r1⟩ := trodAll_cons r0
  obtain ⟨rfl, rfl, rfl⟩ := trodAll_nil r1
  obtain rfl : args = #[v0, v1] := by cases args; simp_all
  obtain ⟨rfl, rfl⟩ := trodVars_none hV
  have k0 := h0
  have lt0 : ∀ x ∈ p0, x.block < W.heap.size := by obtain ⟨m, hm⟩ := k0; exact DataW.trod_lt m _ _ _ hm
  obtain ⟨x0, y0, a0, rfl, wx0, wy0, hs0⟩ := code_of_trod Try.underlying23 Try.underlying3 Try.underlying3 Try.underlying9 (by kernel_rfl) (by kernel_rfl) (hval 0 23 v0 rfl rfl) h0
  have k1 := h1
  have lt1 : ∀ x ∈ p1, x.block < W.heap.size := by obtain ⟨m, hm⟩ := k1; exact DataW.trod_lt m _ _ _ hm
  obtain ⟨a1, rfl, rfl, rfl, hs1⟩ := open_string Try.underlying9 (hval 1 9 v1 rfl rfl) h1
  clear hA0 hval0
  refine (exactApplyRing_any x0 y0 a0 a1 W wx0 wy0 hs0 hs1).mono fun e W' ⟨he, bel⟩ => ?_
  subst he
  exact ⟨_, rfl, _, _, _, [], _, [], hW', trodAll_mk1 (shut_bool Try.underlying4 _), (trodAll_cons_mk (Below.trod laidOut (by kernel_rfl) (of_decide_eq_true (by kernel_rfl)) k0 bel lt0) (trodAll_cons_mk (Below.trod laidOut (by kernel_rfl) (of_decide_eq_true (by kernel_rfl)) k1 bel lt1) trodAll_mk0)), rfl, Below.frame bel _, fun h => by cases h⟩

theorem fnExactApplyRing_holds : Rows.FnExactApplyRingSaid :=
  OpenClaim.holds_of_wide 19 Try.f19 rfl rfl rfl rfl rfl rfl rfl ⟨rfl, rfl, rfl, rfl, rfl⟩ rfl rfl rfl rfl rfl (by kernel_rfl) Try.func19 (by show joinedFacts Try.prog 19 Try.f19 Rows.fnExactApplyRingSpec Rows.fnExactApplyRingRow = true; unfold joinedFacts; rw [mayEnter_it, liftsFinal_it, make_it]; kernel_rfl)
    (of_decide_eq_true (by kernel_rfl)) (by unfold Func.isWrapper; first | (rw [if_pos (by decide +kernel)]; kernel_rfl) | (rw [if_neg (by decide +kernel)]; exact ⟨rfl, rfl⟩))
    (fun os started H enc _ => fnExactApplyRing_lifted os started H enc)
end Go.Proofs.Ytdempmpljekehaa

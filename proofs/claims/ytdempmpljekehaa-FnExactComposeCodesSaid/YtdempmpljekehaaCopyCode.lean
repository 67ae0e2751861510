/- For all three numbers the law FnExactCopyCode returns true. No conditions. -/
import Derived.Test.YtdempmpljekehaaCopyB
import Derived.Test.YtdempmpljekehaaOpen
namespace Go.Proofs.Ytdempmpljekehaa
open Go.ChangeShapes Go.WideShapes Go.ChangeAt Go.RowKit Go.Cm
open Go.ChangeMaps (open_string shut_string)

theorem eqCode_same (L W : Int) (s : ByteArray) (w : World) :
    Calls Try.prog 30 #[.agg #[.int .i64 L, .int .i64 W, .string s], .agg #[.int .i64 L, .int .i64 W, .string s]] w fun e w' => e = .returned (.bool true) ∧ Ext w w' := by
  go_enter Try.func30, Try.ntmps30
  go_wp2
  go_ret
  exact ⟨rfl, (Ext.alloc _ _).trans (Ext.alloc _ _)⟩

set_option maxHeartbeats 1000000 in
theorem exactCopyCode_of (L W a : Int) (L' W' : Int) (s' : ByteArray) (b' : Bool) (w : World)
    (hspec : ∀ w, Calls Try.prog 28 #[.int .i64 L, .int .i64 W, .int .i64 a] w fun e w' => e = .returned (.tuple #[.agg #[.int .i64 L', .int .i64 W', .string s'], .bool b']) ∧ Ext w w')
    (himpl : ∀ w, Calls Try.prog 29 #[.int .i64 L, .int .i64 W, .int .i64 a] w fun e w' => e = .returned (.tuple #[.agg #[.int .i64 L', .int .i64 W', .string s'], .bool b']) ∧ Ext w w') :
    Calls Try.prog 5 #[.int .i64 L, .int .i64 W, .int .i64 a] w fun e w' => e = .returned (.bool true) ∧ Ext w w' := by
  have H1 := Lib.hid hspec
  have H2 := Lib.hid himpl
  clear hspec himpl
  go_enter Try.func5, Try.ntmps5
  go_wp2_with fail
  refine (H1.out _).mono ?_
  rintro e w1 ⟨rfl, hx⟩
  go_wp2_with fail
  refine (H2.out _).mono ?_
  rintro e w2 ⟨rfl, hx2⟩
  have a0 : w2.cell? ⟨w1.heap.size, 0, none⟩ = some (.int .i64 L') := hx2.cell_some (by simp)
  have a1 : w2.cell? ⟨w1.heap.size, 1, none⟩ = some (.int .i64 W') := hx2.cell_some (by simp)
  have a2 : w2.cell? ⟨w1.heap.size, 2, none⟩ = some (.string s') := hx2.cell_some (by simp)
  have hx12 := (hx.trans (Ext.alloc _ _)).trans hx2
  have hsz : w1.heap.size < w2.heap.size := by have := hx2.size; simp at this; omega
  clear hx hx2
  go_wp2_with fail
  refine (eqCode_same _ _ _ _).mono ?_
  rintro e w3 ⟨rfl, hx3⟩
  have hx13 := (hx12.trans (Ext.alloc _ _)).trans hx3
  clear hx12 hx3
  go_wp2
  go_ret
  exact ⟨rfl, hx13⟩

theorem exactCopyCode_any (L W a : Int) (w : World) (_ : (Lit.int .i64 L).wf = true) (_ : (Lit.int .i64 W).wf = true) (_ : (Lit.int .i64 a).wf = true) :
    Calls Try.prog 5 #[.int .i64 L, .int .i64 W, .int .i64 a] w fun e w' => e = .returned (.bool true) ∧ Ext w w' := by
  cases h : copyOk L W a with
  | false => exact exactCopyCode_of L W a 0 0 _ false w (fun w => spec_CopyCode_no L W a w h) (fun w => impl_CopyCode_no L W a w h)
  | true =>
    have hh : wideOk L W = true ∧ 0 ≤ a ∧ a < W := by simpa [copyOk] using h
    have hw := wideOk_yes hh.1
    obtain ⟨K, rfl⟩ := Int.eq_ofNat_of_zero_le (show 0 ≤ L by omega)
    obtain ⟨n, rfl⟩ := Int.eq_ofNat_of_zero_le (show 0 ≤ W by omega)
    obtain ⟨a, rfl⟩ := Int.eq_ofNat_of_zero_le (show 0 ≤ a by omega)
    exact exactCopyCode_of K n a K n _ true w (fun w => spec_CopyCode_yes K n a w h) (fun w => impl_CopyCode_yes K n a w h)

set_option maxRecDepth 100000 in
set_option linter.unusedVariables false in
theorem fnExactCopyCode_lifted (os : Os) (started : os.Started) (H : Type) (enc : TypeId × Value → H) :
    ReturnsInHanded {} Try.checked os 5 .any (Rows.fnExactCopyCodeSpec.pre6 enc Try.prog Try.f5 Rows.fnExactCopyCodeRow.domain false) (Rows.fnExactCopyCodeSpec.post enc Try.prog Try.f5 false true false false) := by
  refine returnsInHanded_of_change (C := Try.checked) own started (by kernel_rfl) Try.func5
    (ChangeSpec.witness6 (enc := enc) (C := Try.checked) false ⟨#[], #[.int .i64 0, .int .i64 0, .int .i64 0], []⟩ 8 (by kernel_rfl) (by kernel_rfl) (by kernel_rfl) (by kernel_rfl)) ?_
  intro W base args ds gs before hval0 hW hcnd _
  have hval : ∀ (j : Nat) t v, Try.f5.params[j]? = some t → args[j]? = some v → Value.okWide Try.prog W .any base t v := hval0
  have hW' := hW
  obtain ⟨p, q, hA0, hV, rfl, hfz, hnd⟩ := hW
  have hA : DataW.TrodAll enc Try.prog W 0 (fun _ => true) true Try.f5.params.toList args.toList ds p := hA0
  rw [Try.params5] at hA hval
  obtain ⟨v0, vs0, d0, ds0, p0, q0, hargs, rfl, rfl, h0, r0⟩ := trodAll_cons hA
  obtain ⟨v1, vs1, d1, ds1, p1, q1, rfl, rfl, rfl, h1, r1⟩ := trodAll_cons r0
  obtain ⟨v2, vs2, d2, ds2, p2, q2, rfl, rfl, rfl, h2, r2⟩ := trodAll_cons r1
  obtain ⟨rfl, rfl, rfl⟩ := trodAll_nil r2
  obtain rfl : args = #[v0, v1, v2] := by cases args; simp_all
  obtain ⟨rfl, rfl⟩ := trodVars_none hV
  have k0 := h0
  have lt0 : ∀ x ∈ p0, x.block < W.heap.size := by obtain ⟨m, hm⟩ := k0; exact DataW.trod_lt m _ _ _ hm
  obtain ⟨a0, rfl, rfl, rfl, wf0⟩ := open_int Try.underlying3 (hval 0 3 v0 rfl rfl) h0
  have k1 := h1
  have lt1 : ∀ x ∈ p1, x.block < W.heap.size := by obtain ⟨m, hm⟩ := k1; exact DataW.trod_lt m _ _ _ hm
  obtain ⟨a1, rfl, rfl, rfl, wf1⟩ := open_int Try.underlying3 (hval 1 3 v1 rfl rfl) h1
  have k2 := h2
  have lt2 : ∀ x ∈ p2, x.block < W.heap.size := by obtain ⟨m, hm⟩ := k2; exact DataW.trod_lt m _ _ _ hm
  obtain ⟨a2, rfl, rfl, rfl, wf2⟩ := open_int Try.underlying3 (hval 2 3 v2 rfl rfl) h2
  clear hA0 hval0
  refine (exactCopyCode_any a0 a1 a2 W wf0 wf1 wf2).mono fun e W' ⟨he, bel⟩ => ?_
  subst he
  exact ⟨_, rfl, _, _, _, [], _, [], hW', trodAll_mk1 (shut_bool Try.underlying4 _), (trodAll_cons_mk (Below.trod laidOut (by kernel_rfl) (of_decide_eq_true (by kernel_rfl)) k0 bel lt0) (trodAll_cons_mk (Below.trod laidOut (by kernel_rfl) (of_decide_eq_true (by kernel_rfl)) k1 bel lt1) (trodAll_cons_mk (Below.trod laidOut (by kernel_rfl) (of_decide_eq_true (by kernel_rfl)) k2 bel lt2) trodAll_mk0))), rfl, Below.frame bel _, fun h => by cases h⟩

theorem fnExactCopyCode_holds : Rows.FnExactCopyCodeSaid :=
  OpenClaim.holds_of_wide 5 Try.f5 rfl rfl rfl rfl rfl rfl rfl ⟨rfl, rfl, rfl, rfl, rfl⟩ rfl rfl rfl rfl rfl (by kernel_rfl) Try.func5 (by show joinedFacts Try.prog 5 Try.f5 Rows.fnExactCopyCodeSpec Rows.fnExactCopyCodeRow = true; unfold joinedFacts; rw [mayEnter_it, liftsFinal_it, make_it]; kernel_rfl)
    (of_decide_eq_true (by kernel_rfl)) (by unfold Func.isWrapper; first | (rw [if_pos (by decide +kernel)]; kernel_rfl) | (rw [if_neg (by decide +kernel)]; exact ⟨rfl, rfl⟩))
    (fun os started H enc _ => fnExactCopyCode_lifted os started H enc)

end Go.Proofs.Ytdempmpljekehaa

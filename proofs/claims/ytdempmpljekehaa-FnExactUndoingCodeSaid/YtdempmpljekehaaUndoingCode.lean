/- For every code and every width the law FnExactUndoingCode returns true. No conditions. -/
import Derived.Test.YtdempmpljekehaaUndoD
import Derived.Test.YtdempmpljekehaaOpen
namespace Go.Proofs.Ytdempmpljekehaa
open Go.ChangeShapes Go.WideShapes Go.ChangeAt Go.RowKit Go.Cm
open Go.ChangeMaps (open_string shut_string)

theorem eqCode_alike (L W : Int) (s : ByteArray) (w : World) :
    Calls Try.prog 30 #[.agg #[.int .i64 L, .int .i64 W, .string s], .agg #[.int .i64 L, .int .i64 W, .string s]] w fun e w' => e = .returned (.bool true) ∧ Ext w w' := by
  go_enter Try.func30, Try.ntmps30
  go_wp2
  go_ret
  exact ⟨rfl, (Ext.alloc _ _).trans (Ext.alloc _ _)⟩

set_option maxHeartbeats 2000000 in
theorem exactUndoingCode_of (L W m x y q : Int) (t : ByteArray) (b : Bool) (o : ByteArray) (w : World) (ho : o.size ≤ maxLen)
    (hspec : ∀ w, Calls Try.prog 34 #[.agg #[.int .i64 L, .int .i64 W, .string o], .int .i64 m] w fun e w' => e = .returned (.tuple #[.agg #[.int .i64 x, .int .i64 y, .string t], .int .i64 q, .bool b]) ∧ Ext w w')
    (himpl : ∀ w, Calls Try.prog 33 #[.agg #[.int .i64 L, .int .i64 W, .string o], .int .i64 m] w fun e w' => e = .returned (.tuple #[.agg #[.int .i64 x, .int .i64 y, .string t], .int .i64 q, .bool b]) ∧ Ext w w') :
    Calls Try.prog 17 #[.agg #[.int .i64 L, .int .i64 W, .string o], .int .i64 m] w fun e w' => e = .returned (.bool true) ∧ Ext w w' := by
  have H1 := Lib.hid hspec
  have H2 := Lib.hid himpl
  clear hspec himpl
  go_enter Try.func17, Try.ntmps17
  go_wp2_with fail
  with_reducible refine (szCode_any _ _ _ _ _ (by omega) (by omega) ho).mono ?_
  rintro e w1 ⟨rfl, hx⟩
  have ba := (show Blk _ w.heap.size #[.int .i64 L, .int .i64 W, .string o] by (repeat (first | (refine Blk.mk' ?_; (simp; done)) | apply Blk.old))).ext hx
  obtain ⟨a0, a1, a2, -, -, -⟩ := ba.c3
  replace hx := (Ext.alloc _ _).trans hx
  go_wp2_with fail
  · go_ret
    exact ⟨rfl, hx⟩
  with_reducible refine (toCode_any _ _ _ _).mono ?_
  rintro e w2 ⟨rfl, hy⟩
  replace hx := hx.trans hy
  replace ba := ba.ext hy
  clear hy a0 a1 a2
  obtain ⟨a0, a1, a2, -, -, -⟩ := ba.c3
  go_wp2_with fail
  with_reducible refine (H1.out _).mono ?_
  rintro e w3 ⟨rfl, hy⟩
  replace hx := hx.trans hy
  replace ba := ba.ext hy
  clear hy a0 a1 a2
  obtain ⟨a0, a1, a2, -, -, -⟩ := (ba.old (o := .cells #[.int .i64 x, .int .i64 y, .string t] 26)).c3
  go_wp2_with fail
  with_reducible refine (toCode_any _ _ _ _).mono ?_
  rintro e w4 ⟨rfl, hy⟩
  have bs := (show Blk _ w3.heap.size #[.int .i64 x, .int .i64 y, .string t] by (repeat (first | (refine Blk.mk' ?_; (simp; done)) | apply Blk.old))).ext hy
  replace hx : Ext w w4 := Ext.trans (by (repeat (first | exact hx | exact Ext.refl _ | exact Ext.alloc _ _ | refine Ext.alloced ?_ _ | (refine Ext.stored ?_ ?_; rotate_left; (· (first | (show _ ≤ _; omega) | (simp; done) | (simp; omega))))))) hy
  clear hy a0 a1 a2
  go_wp2_with fail
  with_reducible refine (H2.out _).mono ?_
  rintro e w5 ⟨rfl, hy⟩
  replace bs := bs.ext hy
  replace hx := hx.trans hy
  obtain ⟨d0, d1, d2, -, -, -⟩ := bs.c3
  obtain ⟨e0, e1, e2, -, -, -⟩ := (bs.old (o := .cells #[.int .i64 x, .int .i64 y, .string t] 26)).c3
  clear hy bs
  go_wp2_with fail
  with_reducible refine (eqCode_alike _ _ _ _).mono ?_
  rintro e w6 ⟨rfl, hy⟩
  replace hx : Ext w w6 := Ext.trans (by (repeat (first | exact hx | exact Ext.refl _ | exact Ext.alloc _ _ | refine Ext.alloced ?_ _ | (refine Ext.stored ?_ ?_; rotate_left; (· (first | (show _ ≤ _; omega) | (simp; done) | (simp; omega))))))) hy
  clear hy
  go_wp2
  go_ret
  exact ⟨rfl, hx⟩

theorem exactUndoingCode_any (L W : Int) (o : ByteArray) (m : Int) (w : World) (_ : -9223372036854775808 ≤ L ∧ L ≤ 9223372036854775807) (_ : -9223372036854775808 ≤ W ∧ W ≤ 9223372036854775807) (ho : o.size ≤ maxLen) (_ : (Lit.int .i64 m).wf = true) :
    Calls Try.prog 17 #[.agg #[.int .i64 L, .int .i64 W, .string o], .int .i64 m] w fun e w' => e = .returned (.bool true) ∧ Ext w w' := by
  have h1 := fun w => spec_UndoingCode_any L W m o w ho
  have h2 := fun w => impl_UndoingCode_any L W m o w ho
  cases hr : undoAny L W m o with
  | none =>
    rw [hr] at h1 h2
    exact exactUndoingCode_of L W m 0 0 0 _ false o w ho h1 h2
  | some p =>
    rw [hr] at h1 h2
    obtain ⟨a, t⟩ := p
    exact exactUndoingCode_of L W m L m a _ true o w ho h1 h2

set_option maxRecDepth 100000 in
set_option linter.unusedVariables false in
theorem fnExactUndoingCode_lifted (os : Os) (started : os.Started) (H : Type) (enc : TypeId × Value → H) :
    ReturnsInHanded {} Try.checked os 17 .any (Rows.fnExactUndoingCodeSpec.pre6 enc Try.prog Try.f17 Rows.fnExactUndoingCodeRow.domain false) (Rows.fnExactUndoingCodeSpec.post enc Try.prog Try.f17 false true false false) := by
  refine returnsInHanded_of_change (C := Try.checked) own started (by kernel_rfl) Try.func17
    (ChangeSpec.witness6 (enc := enc) (C := Try.checked) false ⟨#[], #[.agg #[.int .i64 0, .int .i64 0, .string ⟨#[]⟩], .int .i64 0], []⟩ 8 (by kernel_rfl) (by kernel_rfl) (by kernel_rfl) (by kernel_rfl)) ?_
  intro W base args ds gs before hval0 hW hcnd _
  have hval : ∀ (j : Nat) t v, Try.f17.params[j]? = some t → args[j]? = some v → Value.okWide Try.prog W .any base t v := hval0
  have hW' := hW
  obtain ⟨p, q, hA0, hV, rfl, hfz, hnd⟩ := hW
  have hA : DataW.TrodAll enc Try.prog W 0 (fun _ => true) true Try.f17.params.toList args.toList ds p := hA0
  rw [Try.params17] at hA hval
  obtain ⟨v0, vs0, d0, ds0, p0, q0, hargs, rfl, rfl, h0, r0⟩ := trodAll_cons hA
  obtain ⟨v1, vs1, d1, ds1, p1, q1, rfl, rfl, rfl, h1, r1⟩ := trodAll_cons r0
  obtain ⟨rfl, rfl, rfl⟩ := trodAll_nil r1
  obtain rfl : args = #[v0, v1] := by cases args; simp_all
  obtain ⟨rfl, rfl⟩ := trodVars_none hV
  have k0 := h0
  have lt0 : ∀ x ∈ p0, x.block < W.heap.size := by obtain ⟨m, hm⟩ := k0; exact DataW.trod_lt m _ _ _ hm
  obtain ⟨x0, y0, a0, rfl, wx0, wy0, hs0⟩ := code_of_trod Try.underlying23 Try.underlying3 Try.underlying3 Try.underlying9 (by kernel_rfl) (by kernel_rfl) (hval 0 23 v0 rfl rfl) h0
  have k1 := h1
  have lt1 : ∀ x ∈ p1, x.block < W.heap.size := by obtain ⟨m, hm⟩ := k1; exact DataW.trod_lt m _ _ _ hm
  obtain ⟨a1, rfl, rfl, rfl, wf1⟩ := open_int Try.underlying3 (hval 1 3 v1 rfl rfl) h1
  clear hA0 hval0
  refine (exactUndoingCode_any x0 y0 a0 a1 W wx0 wy0 hs0 wf1).mono fun e W' ⟨he, bel⟩ => ?_
  subst he
  exact ⟨_, rfl, _, _, _, [], _, [], hW', trodAll_mk1 (shut_bool Try.underlying4 _), (trodAll_cons_mk (Below.trod laidOut (by kernel_rfl) (of_decide_eq_true (by kernel_rfl)) k0 bel lt0) (trodAll_cons_mk (Below.trod laidOut (by kernel_rfl) (of_decide_eq_true (by kernel_rfl)) k1 bel lt1) trodAll_mk0)), rfl, Below.frame bel _, fun h => by cases h⟩

theorem fnExactUndoingCode_holds : Rows.FnExactUndoingCodeSaid :=
  OpenClaim.holds_of_wide 17 Try.f17 rfl rfl rfl rfl rfl rfl rfl ⟨rfl, rfl, rfl, rfl, rfl⟩ rfl rfl rfl rfl rfl (by kernel_rfl) Try.func17 (by show joinedFacts Try.prog 17 Try.f17 Rows.fnExactUndoingCodeSpec Rows.fnExactUndoingCodeRow = true; unfold joinedFacts; rw [mayEnter_it, liftsFinal_it, make_it]; kernel_rfl)
    (of_decide_eq_true (by kernel_rfl)) (by unfold Func.isWrapper; first | (rw [if_pos (by decide +kernel)]; kernel_rfl) | (rw [if_neg (by decide +kernel)]; exact ⟨rfl, rfl⟩))
    (fun os started H enc _ => fnExactUndoingCode_lifted os started H enc)
end Go.Proofs.Ytdempmpljekehaa

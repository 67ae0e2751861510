/- For any two codes the law FnExactComposeCodes returns true. No conditions. -/
import Derived.Test.YtdempmpljekehaaCompB
import Derived.Test.YtdempmpljekehaaPut
import Derived.Test.YtdempmpljekehaaCopyCode
import Derived.Test.YtdempmpljekehaaOpen
namespace Go.Proofs.Ytdempmpljekehaa
open Go.ChangeShapes Go.WideShapes Go.ChangeAt Go.RowKit Go.Cm
open Go.ChangeMaps (open_string shut_string)

set_option maxHeartbeats 2000000 in
theorem exactComposeCodes_of (L W L' W' x y : Int) (o o' s : ByteArray) (b : Bool) (w : World) (ho : o.size ≤ maxLen) (ho' : o'.size ≤ maxLen)
    (hspec : ∀ w, Calls Try.prog 58 #[.agg #[.int .i64 L, .int .i64 W, .string o], .agg #[.int .i64 L', .int .i64 W', .string o']] w fun e w' => e = .returned (.tuple #[.agg #[.int .i64 x, .int .i64 y, .string s], .bool b]) ∧ Ext w w')
    (himpl : ∀ w, Calls Try.prog 59 #[.agg #[.int .i64 L, .int .i64 W, .string o], .agg #[.int .i64 L', .int .i64 W', .string o']] w fun e w' => e = .returned (.tuple #[.agg #[.int .i64 x, .int .i64 y, .string s], .bool b]) ∧ Ext w w') :
    Calls Try.prog 13 #[.agg #[.int .i64 L, .int .i64 W, .string o], .agg #[.int .i64 L', .int .i64 W', .string o']] w fun e w' => e = .returned (.bool true) ∧ Ext w w' := by
  have H1 := Lib.hid hspec
  have H2 := Lib.hid himpl
  clear hspec himpl
  go_enter Try.func13, Try.ntmps13
  go_wp2_with fail
  refine (szCode_any _ _ _ _ _ (by omega) (by omega) ho).mono ?_
  rintro e w1 ⟨rfl, hx⟩
  have bo := (show Blk _ w.heap.size #[.int .i64 L, .int .i64 W, .string o] by (repeat (first | (refine Blk.mk' ?_; (simp; done)) | apply Blk.old))).ext hx
  have bo' := (show Blk _ (w.heap.size + 1) #[.int .i64 L', .int .i64 W', .string o'] by (repeat (first | (refine Blk.mk' ?_; (simp; done)) | apply Blk.old))).ext hx
  replace hx := ((Ext.alloc _ _).trans (Ext.alloc _ _)).trans hx
  obtain ⟨a0, a1, a2, -, -, -⟩ := bo.c3
  obtain ⟨d0, d1, d2, -, -, -⟩ := bo'.c3
  have hle := leftS_le 1048576 o.size (by omega)
  go_wp2_with fail
  · go_ret
    exact ⟨rfl, hx⟩
  refine (szCode_any _ _ _ _ _ (by omega) (by omega) ho').mono ?_
  rintro e w2 ⟨rfl, hy⟩
  replace hx := hx.trans hy
  replace bo := bo.ext hy
  replace bo' := bo'.ext hy
  clear hy a0 a1 a2 d0 d1 d2
  obtain ⟨a0, a1, a2, -, -, -⟩ := bo.c3
  obtain ⟨d0, d1, d2, -, -, -⟩ := bo'.c3
  go_wp2_with fail
  · go_ret
    exact ⟨rfl, hx⟩
  refine wp_region_put (by kernel_rfl) 8 9 (Fresh (w2.heap.size) #[.int .i64 0, .int .i64 0, .string ⟨#[]⟩]) (Fresh (w2.heap.size) #[.int .i64 x, .int .i64 y, .string s]) [.known (.agg #[.int .i64 L, .int .i64 W, .string o]), .known (.agg #[.int .i64 L, .int .i64 W, .string o]), .known (.agg #[.int .i64 L', .int .i64 W', .string o']), .known (.agg #[.int .i64 L', .int .i64 W', .string o']), .known (.tuple #[.agg #[.int .i64 x, .int .i64 y, .string s], .bool b]), .known (.tuple #[.agg #[.int .i64 x, .int .i64 y, .string s], .bool b]), .known (.agg #[.int .i64 x, .int .i64 y, .string s]), .known (.bool b), .any, .any, .known (.bool b)] rfl (by kernel_rfl) (by kernel_rfl) (by decide) (fun _ _ _ h h' => Fresh.ext h h') (fun _ _ _ h h' => Fresh.ext h h') ⟨fun _ _ _ h => h, fun _ _ _ h => h, fun _ _ _ h => h, fun _ _ _ h => h, fun _ _ _ h => h, fun _ _ _ h => h, fun _ _ _ h => h, fun _ _ _ h => h, fun _ _ _ h => h, fun _ _ _ h => h, fun _ _ _ h => h, trivial⟩ rfl rfl ?_ ?_
  · intro vs
    refine ⟨fun w' hx hj b hz => ?_, fun w' hx hj b hz => ?_, fun w' hx hj b hz => ?_, fun w' hx hj b hz => ?_, fun w' hx hj b hz => ?_, fun w' hx hj b hz => ?_, fun w' hx hj b hz => ?_, fun w' hx hj b hz => ?_, fun w' hx hj b hz => ?_, fun w' hx hj b hz => ?_, fun w' hx hj b hz => ?_, trivial⟩
    · have c0 := Ext.cell_some hx a0
      have c1 := Ext.cell_some hx a1
      have c2 := Ext.cell_some hx a2
      clear hz
      clear hj
      go_simp
    · clear hz
      clear hj
      go_simp
      exact toCode_any _ _ _ _
    · have c0 := Ext.cell_some hx d0
      have c1 := Ext.cell_some hx d1
      have c2 := Ext.cell_some hx d2
      clear hz
      clear hj
      go_simp
    · clear hz
      clear hj
      go_simp
      exact toCode_any _ _ _ _
    · clear hz
      clear hj
      go_simp
      exact H1.out _
    · clear hz
      clear hj
      go_simp
    · clear hz
      clear hj
      go_simp
    · clear hz
      clear hj
      go_simp
    · clear hz
      clear hj
      go_simp
      exact ⟨Ext.alloc _ _, Fresh.new (Ext.size hx)⟩
    · have hz0 := hz (by kernel_rfl)
      clear hz
      have hb := hz0.1
      have hn := hz0.2.1
      have hbl := hz0.2.2
      have r0 := hbl.c3.1
      have r1 := hbl.c3.2.1
      have r2 := hbl.c3.2.2.1
      have f0 := hbl.c3.2.2.2.1
      have f1 := hbl.c3.2.2.2.2.1
      have f2 := hbl.c3.2.2.2.2.2
      clear hz0
      clear hj
      go_simp
      exact ⟨by (repeat (first | exact hx | exact Ext.refl _ | exact Ext.alloc _ _ | refine Ext.alloced ?_ _ | (refine Ext.stored ?_ ?_; rotate_left; (· (first | (show _ ≤ _; omega) | (simp; done) | (simp; omega)))))), hn, ((hbl.set (i := 0) (by simp) _).set (i := 1) (by simp) _).set (i := 2) (by simp) _⟩
    · clear hz
      clear hj
      go_simp
  · intro vs w3 hx3 hk z hz hZ
    have hzn := hZ.1
    have bz := hZ.2
    clear hk hZ
    go_simp
    clear hz
    replace hx := hx.trans hx3
    replace bo := bo.ext hx3
    replace bo' := bo'.ext hx3
    clear hx3 a0 a1 a2 d0 d1 d2
    obtain ⟨a0, a1, a2, -, -, -⟩ := bo.c3
    obtain ⟨d0, d1, d2, -, -, -⟩ := bo'.c3
    have by_ := bz
    clear bz
    go_wp2_with fail
    refine wp_region_put (by kernel_rfl) 8 9 (Fresh (w3.heap.size) #[.int .i64 0, .int .i64 0, .string ⟨#[]⟩]) (Fresh (w3.heap.size) #[.int .i64 x, .int .i64 y, .string s]) [.known (.agg #[.int .i64 L, .int .i64 W, .string o]), .known (.agg #[.int .i64 L, .int .i64 W, .string o]), .known (.agg #[.int .i64 L', .int .i64 W', .string o']), .known (.agg #[.int .i64 L', .int .i64 W', .string o']), .known (.tuple #[.agg #[.int .i64 x, .int .i64 y, .string s], .bool b]), .known (.tuple #[.agg #[.int .i64 x, .int .i64 y, .string s], .bool b]), .known (.agg #[.int .i64 x, .int .i64 y, .string s]), .known (.bool b), .any, .any, .known (.bool b)] rfl (by kernel_rfl) (by kernel_rfl) (by decide) (fun _ _ _ h h' => Fresh.ext h h') (fun _ _ _ h h' => Fresh.ext h h') ⟨fun _ _ _ h => h, fun _ _ _ h => h, fun _ _ _ h => h, fun _ _ _ h => h, fun _ _ _ h => h, fun _ _ _ h => h, fun _ _ _ h => h, fun _ _ _ h => h, fun _ _ _ h => h, fun _ _ _ h => h, fun _ _ _ h => h, trivial⟩ rfl rfl ?_ ?_
    · intro vs
      refine ⟨fun w' hx hj b hz => ?_, fun w' hx hj b hz => ?_, fun w' hx hj b hz => ?_, fun w' hx hj b hz => ?_, fun w' hx hj b hz => ?_, fun w' hx hj b hz => ?_, fun w' hx hj b hz => ?_, fun w' hx hj b hz => ?_, fun w' hx hj b hz => ?_, fun w' hx hj b hz => ?_, fun w' hx hj b hz => ?_, trivial⟩
      · have c0 := Ext.cell_some hx a0
        have c1 := Ext.cell_some hx a1
        have c2 := Ext.cell_some hx a2
        clear hz
        clear hj
        go_simp
      · clear hz
        clear hj
        go_simp
        exact toCode_any _ _ _ _
      · have c0 := Ext.cell_some hx d0
        have c1 := Ext.cell_some hx d1
        have c2 := Ext.cell_some hx d2
        clear hz
        clear hj
        go_simp
      · clear hz
        clear hj
        go_simp
        exact toCode_any _ _ _ _
      · clear hz
        clear hj
        go_simp
        exact H2.out _
      · clear hz
        clear hj
        go_simp
      · clear hz
        clear hj
        go_simp
      · clear hz
        clear hj
        go_simp
      · clear hz
        clear hj
        go_simp
        exact ⟨Ext.alloc _ _, Fresh.new (Ext.size hx)⟩
      · have hz0 := hz (by kernel_rfl)
        clear hz
        have hb := hz0.1
        have hn := hz0.2.1
        have hbl := hz0.2.2
        have r0 := hbl.c3.1
        have r1 := hbl.c3.2.1
        have r2 := hbl.c3.2.2.1
        have f0 := hbl.c3.2.2.2.1
        have f1 := hbl.c3.2.2.2.2.1
        have f2 := hbl.c3.2.2.2.2.2
        clear hz0
        clear hj
        go_simp
        exact ⟨by (repeat (first | exact hx | exact Ext.refl _ | exact Ext.alloc _ _ | refine Ext.alloced ?_ _ | (refine Ext.stored ?_ ?_; rotate_left; (· (first | (show _ ≤ _; omega) | (simp; done) | (simp; omega)))))), hn, ((hbl.set (i := 0) (by simp) _).set (i := 1) (by simp) _).set (i := 2) (by simp) _⟩
      · clear hz
        clear hj
        go_simp
    · intro vs w4 hx4 hk z hz hZ
      have hzn := hZ.1
      have bz := hZ.2
      clear hk hZ
      go_simp
      clear hz
      replace hx := hx.trans hx4
      replace by_ := by_.ext hx4
      clear hx4 bo bo' a0 a1 a2 d0 d1 d2
      obtain ⟨z0, z1, z2, -, -, -⟩ := by_.c3
      obtain ⟨y0, y1, y2, -, -, -⟩ := bz.c3
      go_wp2_with fail
      refine (eqCode_same _ _ _ _).mono ?_
      rintro e w5 ⟨rfl, hx5⟩
      have hx6 := Ext.trans hx hx5
      clear hx hx5
      go_wp2
      go_ret
      exact ⟨rfl, hx6⟩

theorem exactComposeCodes_any (L W : Int) (o : ByteArray) (L' W' : Int) (o' : ByteArray) (w : World) (_ : -9223372036854775808 ≤ L ∧ L ≤ 9223372036854775807) (_ : -9223372036854775808 ≤ W ∧ W ≤ 9223372036854775807) (ho : o.size ≤ maxLen)
    (_ : -9223372036854775808 ≤ L' ∧ L' ≤ 9223372036854775807) (_ : -9223372036854775808 ≤ W' ∧ W' ≤ 9223372036854775807) (ho' : o'.size ≤ maxLen) :
    Calls Try.prog 13 #[.agg #[.int .i64 L, .int .i64 W, .string o], .agg #[.int .i64 L', .int .i64 W', .string o']] w fun e w' => e = .returned (.bool true) ∧ Ext w w' := by
  cases h : (codeOk L W o && (codeOk L' W' o' && decide (L = L'))) with
  | false => exact exactComposeCodes_of L W L' W' 0 0 o o' _ false w ho ho' (fun w => spec_ComposeCodes_no L W L' W' o o' w ho ho' h) (fun w => impl_ComposeCodes_no L W L' W' o o' w ho ho' h)
  | true =>
    simp only [Bool.and_eq_true, decide_eq_true_eq] at h
    obtain ⟨h1, h2, h3⟩ := h
    subst h3
    obtain ⟨K, n, rfl, rfl, hf⟩ := codeFit_of h1
    obtain ⟨K', m, hK, rfl, hf'⟩ := codeFit_of h2
    obtain rfl : K = K' := by omega
    have hn := hf.n1
    have hm := hf'.n1
    cases hw : wideOk K ((n + m - 1 : Nat) : Int) with
    | false => exact exactComposeCodes_of K n K m 0 0 o o' _ false w ho ho' (fun w => spec_ComposeCodes_wide K n m o o' w h1 h2 hf hf' hw) (fun w => impl_ComposeCodes_yes K n m o o' w h1 h2 hf hf' _ false (by rw [hw]; simp))
    | true => exact exactComposeCodes_of K n K m K (n + m - 1 : Nat) o o' _ true w ho ho' (fun w => spec_ComposeCodes_yes K n m (n + m - 1) o o' w h1 h2 hf hf' (by omega) hw) (fun w => impl_ComposeCodes_yes K n m o o' w h1 h2 hf hf' _ true (by rw [hw]; simp))

set_option maxRecDepth 100000 in
set_option linter.unusedVariables false in
theorem fnExactComposeCodes_lifted (os : Os) (started : os.Started) (H : Type) (enc : TypeId × Value → H) :
    ReturnsInHanded {} Try.checked os 13 .any (Rows.fnExactComposeCodesSpec.pre6 enc Try.prog Try.f13 Rows.fnExactComposeCodesRow.domain false) (Rows.fnExactComposeCodesSpec.post enc Try.prog Try.f13 false true false false) := by
  refine returnsInHanded_of_change (C := Try.checked) own started (by kernel_rfl) Try.func13
    (ChangeSpec.witness6 (enc := enc) (C := Try.checked) false ⟨#[], #[.agg #[.int .i64 0, .int .i64 0, .string ⟨#[]⟩], .agg #[.int .i64 0, .int .i64 0, .string ⟨#[]⟩]], []⟩ 8 (by kernel_rfl) (by kernel_rfl) (by kernel_rfl) (by kernel_rfl)) ?_
  intro W base args ds gs before hval0 hW hcnd _
  have hval : ∀ (j : Nat) t v, Try.f13.params[j]? = some t → args[j]? = some v → Value.okWide Try.prog W .any base t v := hval0
  have hW' := hW
  obtain ⟨p, q, hA0, hV, rfl, hfz, hnd⟩ := hW
  have hA : DataW.TrodAll enc Try.prog W 0 (fun _ => true) true Try.f13.params.toList args.toList ds p := hA0
  rw [Try.params13] at hA hval
  obtain ⟨v0, vs0, d0, ds0, p0, q0, hargs, rfl, rfl, h0, r0⟩ := trodAll_cons hA
  obtain ⟨v1, vs1, d1, ds1, p1, q1, rfl, rfl, rfl, h1, r1⟩ := trodAll_cons r0
  obtain ⟨rfl, rfl, rfl⟩ := trodAll_nil r1
  obtain rfl : args = #[v0, v1] := by cases args; simp_all
  obtain ⟨rfl, rfl⟩ := trodVars_none hV
  have k0 := h0
  have lt0 : ∀ x ∈ p0, x.block < W.heap.size := by obtain ⟨m, hm⟩ := k0; exact DataW.trod_lt m _ _ _ hm
  obtain ⟨x0, y0, a0, rfl, wx0, wy0, hs0⟩ := code_of_trod Try.underlying23 Try.underlying3 Try.underlying3 Try.underlying9 (by kernel_rfl) (by kernel_rfl) (hval 0 23 v0 rfl rfl) h0
  have k1 := h1
  have lt1 : ∀ x ∈ p1, x.block < W.heap.size := by obtain ⟨m, hm⟩ := k1; exact DataW.trod_lt m _ _ _ hm
  obtain ⟨x1, y1, a1, rfl, wx1, wy1, hs1⟩ := code_of_trod Try.underlying23 Try.underlying3 Try.underlying3 Try.underlying9 (by kernel_rfl) (by kernel_rfl) (hval 1 23 v1 rfl rfl) h1
  clear hA0 hval0
  refine (exactComposeCodes_any x0 y0 a0 x1 y1 a1 W wx0 wy0 hs0 wx1 wy1 hs1).mono fun e W' ⟨he, bel⟩ => ?_
  subst he
  exact ⟨_, rfl, _, _, _, [], _, [], hW', trodAll_mk1 (shut_bool Try.underlying4 _), (trodAll_cons_mk (Below.trod laidOut (by kernel_rfl) (of_decide_eq_true (by kernel_rfl)) k0 bel lt0) (trodAll_cons_mk (Below.trod laidOut (by kernel_rfl) (of_decide_eq_true (by kernel_rfl)) k1 bel lt1) trodAll_mk0)), rfl, Below.frame bel _, fun h => by cases h⟩

theorem fnExactComposeCodes_holds : Rows.FnExactComposeCodesSaid :=
  OpenClaim.holds_of_wide 13 Try.f13 rfl rfl rfl rfl rfl rfl rfl ⟨rfl, rfl, rfl, rfl, rfl⟩ rfl rfl rfl rfl rfl (by kernel_rfl) Try.func13 (by show joinedFacts Try.prog 13 Try.f13 Rows.fnExactComposeCodesSpec Rows.fnExactComposeCodesRow = true; unfold joinedFacts; rw [mayEnter_it, liftsFinal_it, make_it]; kernel_rfl)
    (of_decide_eq_true (by kernel_rfl)) (by unfold Func.isWrapper; first | (rw [if_pos (by decide +kernel)]; kernel_rfl) | (rw [if_neg (by decide +kernel)]; exact ⟨rfl, rfl⟩))
    (fun os started H enc _ => fnExactComposeCodes_lifted os started H enc)
end Go.Proofs.Ytdempmpljekehaa

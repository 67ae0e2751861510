/- For every two codes and every number the law FnExactSameOnRings returns true. No conditions. -/
import Derived.Test.YtdempmpljekehaaSameB
import Derived.Test.YtdempmpljekehaaOpen
namespace Go.Proofs.Ytdempmpljekehaa
open Go.ChangeShapes Go.WideShapes Go.ChangeAt Go.RowKit Go.Cm
open Go.ChangeMaps (open_string shut_string)

set_option maxHeartbeats 2000000 in
theorem exactSameOnRings_of (L W L' W' m : Int) (o o' : ByteArray) (b : Bool) (w : World) (ho : o.size ≤ maxLen) (ho' : o'.size ≤ maxLen)
    (hspec : ∀ w, Calls Try.prog 46 #[.agg #[.int .i64 L, .int .i64 W, .string o], .agg #[.int .i64 L', .int .i64 W', .string o'], .int .i64 m] w fun e w' => e = .returned (.bool b) ∧ Ext w w')
    (himpl : ∀ w, Calls Try.prog 45 #[.agg #[.int .i64 L, .int .i64 W, .string o], .agg #[.int .i64 L', .int .i64 W', .string o'], .int .i64 m] w fun e w' => e = .returned (.bool b) ∧ Ext w w') :
    Calls Try.prog 20 #[.agg #[.int .i64 L, .int .i64 W, .string o], .agg #[.int .i64 L', .int .i64 W', .string o'], .int .i64 m] w fun e w' => e = .returned (.bool true) ∧ Ext w w' := by
  have HT := Lib.hid (And.intro (fun w => toCode_any L W o w) (fun w => toCode_any L' W' o' w))
  have H := Lib.hid (And.intro hspec himpl)
  clear hspec himpl
  go_enter Try.func20, Try.ntmps20
  go_wp2_with fail
  with_reducible refine (szCode_any _ _ _ _ _ (by omega) (by omega) ho).mono ?_
  rintro e w1 ⟨rfl, hx⟩
  have ba := (show Blk _ w.heap.size #[.int .i64 L, .int .i64 W, .string o] by (repeat (first | (refine Blk.mk' ?_; (simp; done)) | apply Blk.old))).ext hx
  have bb := (show Blk _ (w.heap.size + 1) #[.int .i64 L', .int .i64 W', .string o'] by (repeat (first | (refine Blk.mk' ?_; (simp; done)) | apply Blk.old))).ext hx
  replace hx : Ext w w1 := Ext.trans (by (repeat (first | exact (Ext.refl w) | exact Ext.refl _ | exact Ext.alloc _ _ | refine Ext.alloced ?_ _ | (refine Ext.stored ?_ ?_; rotate_left; (· (first | (show _ ≤ _; omega) | (simp; done) | (simp; omega))))))) hx
  obtain ⟨n1, hn1⟩ : ∃ n1, n1 = leftS 1048576 o.size := ⟨_, rfl⟩
  have hn1b := leftS_le 1048576 o.size (by omega)
  rw [← hn1] at hn1b ⊢
  clear hn1
  obtain ⟨b0, b1, b2, -, -, -⟩ := bb.c3
  by_cases hneg : n1 < 0
  · go_wp2
    go_ret
    exact ⟨rfl, hx⟩
  go_wp2_with fail
  with_reducible refine (szCode_any _ _ _ _ _ (by omega) (by omega) ho').mono ?_
  rintro e w2 ⟨rfl, hy⟩
  replace ba := ba.ext hy
  replace bb := bb.ext hy
  replace hx := hx.trans hy
  clear hy b0 b1 b2
  obtain ⟨a0, a1, a2, -, -, -⟩ := ba.c3
  obtain ⟨b0, b1, b2, -, -, -⟩ := bb.c3
  obtain ⟨n2, hn2⟩ : ∃ n2, n2 = leftS n1 o'.size := ⟨_, rfl⟩
  rw [← hn2]
  clear hn2
  by_cases hneg2 : n2 < 0
  · go_wp2
    go_ret
    exact ⟨rfl, hx⟩
  go_wp2
  refine wp_region_inv (by kernel_rfl) [.known ?hx3_7_v0, .known (.agg #[.int .i64 L, .int .i64 W, .string o]), .known ?hx3_7_v2, .known (.agg #[.int .i64 L', .int .i64 W', .string o']), .known ?hx3_7_v4, .known (.bool b), .known ?hx3_7_v6] rfl (by kernel_rfl) ?hx3_7_s ?hx3_7_p
  case hx3_7_s =>
    intro vs
    refine ⟨fun w' hxw hj => ?_, fun w' hxw hj => ?_, fun w' hxw hj => ?_, fun w' hxw hj => ?_, fun w' hxw hj => ?_, fun w' hxw hj => ?_, fun w' hxw hj => ?_, trivial⟩
    · have a0 := Ext.cell_some hxw a0
      have a1 := Ext.cell_some hxw a1
      have a2 := Ext.cell_some hxw a2
      have b0 := Ext.cell_some hxw b0
      have b1 := Ext.cell_some hxw b1
      have b2 := Ext.cell_some hxw b2
      clear hj
      go_simp
      try go_bits
      first | rfl | (rw [if_pos (by omega), if_pos (by omega)]; go_simp; rfl) | (rw [if_pos (by omega)]; go_simp; rfl) | skip
    · have a0 := Ext.cell_some hxw a0
      have a1 := Ext.cell_some hxw a1
      have a2 := Ext.cell_some hxw a2
      have b0 := Ext.cell_some hxw b0
      have b1 := Ext.cell_some hxw b1
      have b2 := Ext.cell_some hxw b2
      clear hj
      go_simp
      try go_bits
      exact HT.out.1 _
    · have a0 := Ext.cell_some hxw a0
      have a1 := Ext.cell_some hxw a1
      have a2 := Ext.cell_some hxw a2
      have b0 := Ext.cell_some hxw b0
      have b1 := Ext.cell_some hxw b1
      have b2 := Ext.cell_some hxw b2
      clear hj
      go_simp
      try go_bits
      first | rfl | (rw [if_pos (by omega), if_pos (by omega)]; go_simp; rfl) | (rw [if_pos (by omega)]; go_simp; rfl) | skip
    · have a0 := Ext.cell_some hxw a0
      have a1 := Ext.cell_some hxw a1
      have a2 := Ext.cell_some hxw a2
      have b0 := Ext.cell_some hxw b0
      have b1 := Ext.cell_some hxw b1
      have b2 := Ext.cell_some hxw b2
      clear hj
      go_simp
      try go_bits
      exact HT.out.2 _
    · have a0 := Ext.cell_some hxw a0
      have a1 := Ext.cell_some hxw a1
      have a2 := Ext.cell_some hxw a2
      have b0 := Ext.cell_some hxw b0
      have b1 := Ext.cell_some hxw b1
      have b2 := Ext.cell_some hxw b2
      clear hj
      go_simp
      try go_bits
      first | rfl | (rw [if_pos (by omega), if_pos (by omega)]; go_simp; rfl) | (rw [if_pos (by omega)]; go_simp; rfl) | skip
    · have a0 := Ext.cell_some hxw a0
      have a1 := Ext.cell_some hxw a1
      have a2 := Ext.cell_some hxw a2
      have b0 := Ext.cell_some hxw b0
      have b1 := Ext.cell_some hxw b1
      have b2 := Ext.cell_some hxw b2
      clear hj
      go_simp
      try go_bits
      exact H.out.1 _
    · have a0 := Ext.cell_some hxw a0
      have a1 := Ext.cell_some hxw a1
      have a2 := Ext.cell_some hxw a2
      have b0 := Ext.cell_some hxw b0
      have b1 := Ext.cell_some hxw b1
      have b2 := Ext.cell_some hxw b2
      clear hj
      go_simp
      try go_bits
      first | rfl | (rw [if_pos (by omega), if_pos (by omega)]; go_simp; rfl) | (rw [if_pos (by omega)]; go_simp; rfl) | skip
  case' hx3_7_p =>
    intro vs w3 hx3 hk
    clear hk
    replace a0 := Ext.cell_some hx3 a0
    replace a1 := Ext.cell_some hx3 a1
    replace a2 := Ext.cell_some hx3 a2
    replace b0 := Ext.cell_some hx3 b0
    replace b1 := Ext.cell_some hx3 b1
    replace b2 := Ext.cell_some hx3 b2
    replace hx := Ext.trans hx hx3
    go_simp
    clear hx3
    go_wp2
    refine wp_region_inv (by kernel_rfl) [.known ?hx4_8_v0, .known (.agg #[.int .i64 L, .int .i64 W, .string o]), .known ?hx4_8_v2, .known (.agg #[.int .i64 L', .int .i64 W', .string o']), .known ?hx4_8_v4, .known (.bool b), .known ?hx4_8_v6] rfl (by kernel_rfl) ?hx4_8_s ?hx4_8_p
    case hx4_8_s =>
      intro vs
      refine ⟨fun w' hxw hj => ?_, fun w' hxw hj => ?_, fun w' hxw hj => ?_, fun w' hxw hj => ?_, fun w' hxw hj => ?_, fun w' hxw hj => ?_, fun w' hxw hj => ?_, trivial⟩
      · have a0 := Ext.cell_some hxw a0
        have a1 := Ext.cell_some hxw a1
        have a2 := Ext.cell_some hxw a2
        have b0 := Ext.cell_some hxw b0
        have b1 := Ext.cell_some hxw b1
        have b2 := Ext.cell_some hxw b2
        clear hj
        go_simp
        try go_bits
        first | rfl | (rw [if_pos (by omega), if_pos (by omega)]; go_simp; rfl) | (rw [if_pos (by omega)]; go_simp; rfl) | skip
      · have a0 := Ext.cell_some hxw a0
        have a1 := Ext.cell_some hxw a1
        have a2 := Ext.cell_some hxw a2
        have b0 := Ext.cell_some hxw b0
        have b1 := Ext.cell_some hxw b1
        have b2 := Ext.cell_some hxw b2
        clear hj
        go_simp
        try go_bits
        exact HT.out.1 _
      · have a0 := Ext.cell_some hxw a0
        have a1 := Ext.cell_some hxw a1
        have a2 := Ext.cell_some hxw a2
        have b0 := Ext.cell_some hxw b0
        have b1 := Ext.cell_some hxw b1
        have b2 := Ext.cell_some hxw b2
        clear hj
        go_simp
        try go_bits
        first | rfl | (rw [if_pos (by omega), if_pos (by omega)]; go_simp; rfl) | (rw [if_pos (by omega)]; go_simp; rfl) | skip
      · have a0 := Ext.cell_some hxw a0
        have a1 := Ext.cell_some hxw a1
        have a2 := Ext.cell_some hxw a2
        have b0 := Ext.cell_some hxw b0
        have b1 := Ext.cell_some hxw b1
        have b2 := Ext.cell_some hxw b2
        clear hj
        go_simp
        try go_bits
        exact HT.out.2 _
      · have a0 := Ext.cell_some hxw a0
        have a1 := Ext.cell_some hxw a1
        have a2 := Ext.cell_some hxw a2
        have b0 := Ext.cell_some hxw b0
        have b1 := Ext.cell_some hxw b1
        have b2 := Ext.cell_some hxw b2
        clear hj
        go_simp
        try go_bits
        first | rfl | (rw [if_pos (by omega), if_pos (by omega)]; go_simp; rfl) | (rw [if_pos (by omega)]; go_simp; rfl) | skip
      · have a0 := Ext.cell_some hxw a0
        have a1 := Ext.cell_some hxw a1
        have a2 := Ext.cell_some hxw a2
        have b0 := Ext.cell_some hxw b0
        have b1 := Ext.cell_some hxw b1
        have b2 := Ext.cell_some hxw b2
        clear hj
        go_simp
        try go_bits
        exact H.out.2 _
      · have a0 := Ext.cell_some hxw a0
        have a1 := Ext.cell_some hxw a1
        have a2 := Ext.cell_some hxw a2
        have b0 := Ext.cell_some hxw b0
        have b1 := Ext.cell_some hxw b1
        have b2 := Ext.cell_some hxw b2
        clear hj
        go_simp
        try go_bits
        first | rfl | (rw [if_pos (by omega), if_pos (by omega)]; go_simp; rfl) | (rw [if_pos (by omega)]; go_simp; rfl) | skip
    case' hx4_8_p =>
      intro vs w4 hx4 hk
      clear hk
      replace a0 := Ext.cell_some hx4 a0
      replace a1 := Ext.cell_some hx4 a1
      replace a2 := Ext.cell_some hx4 a2
      replace b0 := Ext.cell_some hx4 b0
      replace b1 := Ext.cell_some hx4 b1
      replace b2 := Ext.cell_some hx4 b2
      replace hx := Ext.trans hx hx4
      go_simp
      clear hx4 a0 a1 a2 b0 b1 b2
      go_wp2
      go_ret
      exact ⟨rfl, hx⟩

theorem exactSameOnRings_any (L W : Int) (o : ByteArray) (L' W' : Int) (o' : ByteArray) (m : Int) (w : World) (_ : -9223372036854775808 ≤ L ∧ L ≤ 9223372036854775807) (_ : -9223372036854775808 ≤ W ∧ W ≤ 9223372036854775807) (ho : o.size ≤ maxLen) (_ : -9223372036854775808 ≤ L' ∧ L' ≤ 9223372036854775807) (_ : -9223372036854775808 ≤ W' ∧ W' ≤ 9223372036854775807) (ho' : o'.size ≤ maxLen) (_ : (Lit.int .i64 m).wf = true) :
    Calls Try.prog 20 #[.agg #[.int .i64 L, .int .i64 W, .string o], .agg #[.int .i64 L', .int .i64 W', .string o'], .int .i64 m] w fun e w' => e = .returned (.bool true) ∧ Ext w w' := by
  cases h : sameOk L W L' W' m o o' with
  | false => exact exactSameOnRings_of L W L' W' m o o' _ w ho ho' (fun w => spec_SameOnRings_no L W L' W' m o o' w ho ho' h) (fun w => impl_SameOnRings_no L W L' W' m o o' w ho ho' h)
  | true =>
    simp only [sameOk, Bool.and_eq_true, decide_eq_true_eq] at h
    obtain ⟨hc, hc', rfl, h1, h6⟩ := h
    have hcd := hc
    have hcd' := hc'
    obtain ⟨K, n, rfl, rfl, hf⟩ := codeFit_of hc
    obtain ⟨K', n', hK, rfl, hf'⟩ := codeFit_of hc'
    obtain rfl : K = K' := by omega
    obtain ⟨m, rfl⟩ := Int.eq_ofNat_of_zero_le (show 0 ≤ m by omega)
    exact exactSameOnRings_of K n K n' m o o' _ w ho ho' (fun w => spec_SameOnRings_yes K n n' m o o' w hcd hf hcd' hf' (by omega) (by omega)) (fun w => impl_SameOnRings_yes K n n' m o o' w hcd hf hcd' hf' (by omega) (by omega))

set_option maxRecDepth 100000 in
set_option linter.unusedVariables false in
theorem fnExactSameOnRings_lifted (os : Os) (started : os.Started) (H : Type) (enc : TypeId × Value → H) :
    ReturnsInHanded {} Try.checked os 20 .any (Rows.fnExactSameOnRingsSpec.pre6 enc Try.prog Try.f20 Rows.fnExactSameOnRingsRow.domain false) (Rows.fnExactSameOnRingsSpec.post enc Try.prog Try.f20 false true false false) := by
  refine returnsInHanded_of_change (C := Try.checked) own started (by kernel_rfl) Try.func20
    (ChangeSpec.witness6 (enc := enc) (C := Try.checked) false ⟨#[], #[.agg #[.int .i64 0, .int .i64 0, .string ⟨#[]⟩], .agg #[.int .i64 0, .int .i64 0, .string ⟨#[]⟩], .int .i64 0], []⟩ 8 (by kernel_rfl) (by kernel_rfl) (by kernel_rfl) (by kernel_rfl)) ?_
  intro W base args ds gs before hval0 hW hcnd _
  have hval : ∀ (j : Nat) t v, Try.f20.params[j]? = some t → args[j]? = some v → Value.okWide Try.prog W .any base t v := hval0
  have hW' := hW
  obtain ⟨p, q, hA0, hV, rfl, hfz, hnd⟩ := hW
  have hA : DataW.TrodAll enc Try.prog W 0 (fun _ => true) true Try.f20.params.toList args.toList ds p := hA0
  rw [Try.params20] at hA hval
  obtain ⟨v0, vs0, d0, ds0, p0, q0, hargs, rfl, rfl, h0, r0⟩ := trodAll_cons hA
  obtain ⟨v1, vs1, d1, ds1, p1, q1, rfl, rfl, rfl, h1, r1⟩ := trodAll_cons r0
  obtain ⟨v2, vs2, d2, ds2, p2, q2, rfl, rfl, rfl, h2, r2⟩ := trodAll_cons r1
  obtain ⟨rfl, rfl, rfl⟩ := trodAll_nil r2
  obtain rfl : args = #[v0, v1, v2] := by cases args; simp_all
  obtain ⟨rfl, rfl⟩ := trodVars_none hV
  have k0 := h0
  have lt0 : ∀ x ∈ p0, x.block < W.heap.size := by obtain ⟨m, hm⟩ := k0; exact DataW.trod_lt m _ _ _ hm
  obtain ⟨x0, y0, a0, rfl, wx0, wy0, hs0⟩ := code_of_trod Try.underlying23 Try.underlying3 Try.underlying3 Try.underlying9 (by kernel_rfl) (by kernel_rfl) (hval 0 23 v0 rfl rfl) h0
  have k1 := h1
  have lt1 : ∀ x ∈ p1, x.block < W.heap.size := by obtain ⟨m, hm⟩ := k1; exact DataW.trod_lt m _ _ _ hm
  obtain ⟨x1, y1, a1, rfl, wx1, wy1, hs1⟩ := code_of_trod Try.underlying23 Try.underlying3 Try.underlying3 Try.underlying9 (by kernel_rfl) (by kernel_rfl) (hval 1 23 v1 rfl rfl) h1
  have k2 := h2
  have lt2 : ∀ x ∈ p2, x.block < W.heap.size := by obtain ⟨m, hm⟩ := k2; exact DataW.trod_lt m _ _ _ hm
  obtain ⟨a2, rfl, rfl, rfl, wf2⟩ := open_int Try.underlying3 (hval 2 3 v2 rfl rfl) h2
  clear hA0 hval0
  refine (exactSameOnRings_any x0 y0 a0 x1 y1 a1 a2 W wx0 wy0 hs0 wx1 wy1 hs1 wf2).mono fun e W' ⟨he, bel⟩ => ?_
  subst he
  exact ⟨_, rfl, _, _, _, [], _, [], hW', trodAll_mk1 (shut_bool Try.underlying4 _), (trodAll_cons_mk (Below.trod laidOut (by kernel_rfl) (of_decide_eq_true (by kernel_rfl)) k0 bel lt0) (trodAll_cons_mk (Below.trod laidOut (by kernel_rfl) (of_decide_eq_true (by kernel_rfl)) k1 bel lt1) (trodAll_cons_mk (Below.trod laidOut (by kernel_rfl) (of_decide_eq_true (by kernel_rfl)) k2 bel lt2) trodAll_mk0))), rfl, Below.frame bel _, fun h => by cases h⟩

theorem fnExactSameOnRings_holds : Rows.FnExactSameOnRingsSaid :=
  OpenClaim.holds_of_wide 20 Try.f20 rfl rfl rfl rfl rfl rfl rfl ⟨rfl, rfl, rfl, rfl, rfl⟩ rfl rfl rfl rfl rfl (by kernel_rfl) Try.func20 (by show joinedFacts Try.prog 20 Try.f20 Rows.fnExactSameOnRingsSpec Rows.fnExactSameOnRingsRow = true; unfold joinedFacts; rw [mayEnter_it, liftsFinal_it, make_it]; kernel_rfl)
    (of_decide_eq_true (by kernel_rfl)) (by unfold Func.isWrapper; first | (rw [if_pos (by decide +kernel)]; kernel_rfl) | (rw [if_neg (by decide +kernel)]; exact ⟨rfl, rfl⟩))
    (fun os started H enc _ => fnExactSameOnRings_lifted os started H enc)
end Go.Proofs.Ytdempmpljekehaa

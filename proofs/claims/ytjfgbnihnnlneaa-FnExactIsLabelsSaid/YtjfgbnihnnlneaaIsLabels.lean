/- For all arguments the law FnExactIsLabels returns true. No conditions. -/
import Derived.Test.YtjfgbnihnnlneaaLabG
import Derived.Test.YtjfgbnihnnlneaaLabH
namespace Go.Proofs.Ytjfgbnihnnlneaa
open Go.ChangeShapes Go.WideShapes Go.ChangeAt Go.RowKit

/-- a labelled graph of these numbers and arcs -/
def LabJ (L S : Int) (ar : List (Int × Int × Int)) (v : Value) (w : World) : Prop := ∃ a n c, v = .agg #[.int .i64 L, .int .i64 S, .slice a n c] ∧ ReadsArcs w (.slice a n c) ar
theorem LabJ.ok (L S : Int) (ar : List (Int × Int × Int)) : ∀ v w w', Ext w w' → LabJ L S ar v w → LabJ L S ar v w' := fun _ _ _ hx ⟨a, n, c, h1, h2⟩ => ⟨a, n, c, h1, h2.ext hx⟩
theorem toLabJ_any (L S : Int) (u : Value) (ar : List (Int × Int × Int)) (w : World) (h : ReadsArcs w u ar) (hs : ar.length ≤ 1048576) :
    Calls Try.prog 7 #[.agg #[.int .i64 L, .int .i64 S, u]] w fun e w' => ∃ v, e = .returned v ∧ Ext w w' ∧ LabJ L S ar v w' :=
  (toLabels_any L S u ar w h hs).mono fun _ _ ⟨u', h1, h2, h3⟩ => by
    obtain ⟨a, c, rfl⟩ := h2.slice
    exact ⟨_, h1, h3, _, _, _, rfl, h2⟩
theorem left_or (l : Int) (n : Nat) : (l < (n : Int) ∧ (if l - (n : Int) < 0 then -1 else l - (n : Int)) = -1) ∨ ((n : Int) ≤ l ∧ (if l - (n : Int) < 0 then -1 else l - (n : Int)) = l - (n : Int)) := by
  by_cases h : l - (n : Int) < 0
  · exact .inl ⟨by omega, if_pos h⟩
  · exact .inr ⟨by omega, if_neg h⟩

set_option maxRecDepth 100000 in
set_option maxHeartbeats 4000000 in
theorem exactIsLabels_any (L S : Int) (u : Value) (ar : List (Int × Int × Int)) (w : World)
    (_ : -9223372036854775808 ≤ L ∧ L ≤ 9223372036854775807) (_ : -9223372036854775808 ≤ S ∧ S ≤ 9223372036854775807) (A0 : ReadsArcs w u ar ∧ ArcsFit ar) :
    Calls Try.prog 4 #[.agg #[.int .i64 L, .int .i64 S, u]] w fun e w' => e = .returned (.bool true) ∧ Ext w w' := by
  obtain ⟨A0, -⟩ := A0
  obtain ⟨pa, ca, rfl⟩ := A0.slice
  have HW := Lib.hid (Ext.alloc w (.cells #[.int .i64 L, .int .i64 S, .slice pa ar.length ca] 24))
  have HA := Lib.hid A0
  clear A0
  have HC : ∀ w1, Ext (w.alloc (.cells #[.int .i64 L, .int .i64 S, .slice pa ar.length ca] 24)) w1 →
      (w1.cell? ⟨w.heap.size, 0, none⟩ = some (.int .i64 L) ∧ w1.cell? ⟨w.heap.size, 1, none⟩ = some (.int .i64 S) ∧ w1.cell? ⟨w.heap.size, 2, none⟩ = some (.slice pa ar.length ca)) := by
    intro w1 hx
    exact ⟨hx.cell_some (fresh_cell rfl rfl), hx.cell_some (fresh_cell rfl rfl), hx.cell_some (fresh_cell rfl rfl)⟩
  have HC := Lib.hid HC
  have HL := Lib.hid (left_or 1048576 ar.length)
  obtain ⟨s, hs⟩ : ∃ s, s = isLab L S ar := ⟨_, rfl⟩
  have hsp := fun u w r => spec_IsLabels_any L S u ar w r
  have him := fun u w r => impl_IsLabels_any L S u ar w r
  rw [← hs] at hsp him
  have HE := Lib.hid (And.intro hsp him)
  clear hsp him hs
  go_enter Try.func4, Try.ntmps4
  go_wp2_with fail
  with_reducible refine (szLabels_any L S 1048576 _ ar _ (by omega) (by omega) (HA.out.ext HW.out)).mono ?_
  rintro e w1 ⟨rfl, hx1⟩
  have E := Ext.trans HW.out hx1
  obtain ⟨a0, a1, a2⟩ := HC.out w1 hx1
  rcases HL.out with ⟨hl, hr⟩ | ⟨hl, hr⟩
  · rw [hr]
    clear hr hl
    go_wp2
    go_ret
    exact ⟨rfl, E⟩
  rw [hr]
  clear hr
  have hla : ar.length ≤ 1048576 := by omega
  have hneg : ¬ (1048576 - (ar.length : Int) < 0) := by omega
  go_wp2_with fail
  with_reducible refine (toLabJ_any L S _ ar _ (HA.out.ext E) hla).mono ?_
  rintro e w2 ⟨v1, rfl, hx2, p1, n1, c1, rfl, r1⟩
  replace E := Ext.trans E hx2
  replace hx1 := Ext.trans hx1 hx2
  clear a0 a1 a2
  obtain ⟨a0, a1, a2⟩ := HC.out w2 hx1
  go_wp2_with fail
  with_reducible refine (HE.out.1 _ _ r1).mono ?_
  rintro e w3 ⟨rfl, hx3⟩
  replace E := Ext.trans E hx3
  replace hx1 := Ext.trans hx1 hx3
  clear a0 a1 a2 r1 hx2 hx3
  obtain ⟨a0, a1, a2⟩ := HC.out w3 hx1
  go_wp2_with fail
  with_reducible refine (toLabJ_any L S _ ar _ (HA.out.ext E) hla).mono ?_
  rintro e w4 ⟨v1, rfl, hx4, p2, n2, c2, rfl, r2⟩
  replace E := Ext.trans E hx4
  replace hx1 := Ext.trans hx1 hx4
  clear a0 a1 a2
  obtain ⟨a0, a1, a2⟩ := HC.out w4 hx1
  have HR := Lib.hid (r2.ext (Ext.alloc _ (.cells #[.int .i64 L, .int .i64 S, .slice p2 n2 c2] 29)))
  have q0 := fresh_cell (w := w4) (c := #[.int .i64 L, .int .i64 S, .slice p2 n2 c2]) (t := 29) (n := w4.heap.size) (i := 0) rfl rfl
  have q1 := fresh_cell (w := w4) (c := #[.int .i64 L, .int .i64 S, .slice p2 n2 c2]) (t := 29) (n := w4.heap.size) (i := 1) rfl rfl
  have q2 := fresh_cell (w := w4) (c := #[.int .i64 L, .int .i64 S, .slice p2 n2 c2]) (t := 29) (n := w4.heap.size) (i := 2) rfl rfl
  clear r2 hx4
  go_wp2_with fail
  with_reducible refine (HE.out.2 _ _ HR.out).mono ?_
  rintro e w5 ⟨rfl, hx5⟩
  replace E := Ext.trans (Ext.trans E (Ext.alloc _ _)) hx5
  replace hx1 := Ext.trans (Ext.trans hx1 (Ext.alloc _ _)) hx5
  replace q0 := hx5.cell_some q0
  replace q1 := hx5.cell_some q1
  replace q2 := hx5.cell_some q2
  clear a0 a1 a2
  obtain ⟨a0, a1, a2⟩ := HC.out w5 hx1
  have HQ := Lib.hid (HR.out.ext hx5)
  clear hx5 HR
  go_wp2
  refine wp_region_inv (by kernel_rfl) (.known ?hx7_1_v0 :: .known ?hx7_1_v1 :: .such (LabJ L S ar) (LabJ.ok _ _ _) :: .known (.bool true) :: .known ?hx7_1_v4 :: []) rfl (by kernel_rfl) ?hx7_1_s ?hx7_1_p
  case hx7_1_s =>
    intro vs
    refine ⟨fun w' hxw hj => ?_, fun w' hxw hj => ?_, fun w' hxw hj => ?_, fun w' hxw hj => ?_, fun w' hxw hj => ?_, trivial⟩
    · have a0 := Ext.cell_some hxw a0
      have a1 := Ext.cell_some hxw a1
      have a2 := Ext.cell_some hxw a2
      have q0 := Ext.cell_some hxw q0
      have q1 := Ext.cell_some hxw q1
      have q2 := Ext.cell_some hxw q2
      clear hj
      go_simp
      try go_bits
      first | rfl | (rw [if_pos (by omega), if_pos (by omega)]; go_simp; rfl) | (rw [if_pos (by omega)]; go_simp; rfl) | skip
    · have a0 := Ext.cell_some hxw a0
      have a1 := Ext.cell_some hxw a1
      have a2 := Ext.cell_some hxw a2
      have q0 := Ext.cell_some hxw q0
      have q1 := Ext.cell_some hxw q1
      have q2 := Ext.cell_some hxw q2
      clear hj
      go_simp
      try go_bits
      first | rfl | (rw [if_pos (by omega), if_pos (by omega)]; go_simp; rfl) | (rw [if_pos (by omega)]; go_simp; rfl) | skip
    · have a0 := Ext.cell_some hxw a0
      have a1 := Ext.cell_some hxw a1
      have a2 := Ext.cell_some hxw a2
      have q0 := Ext.cell_some hxw q0
      have q1 := Ext.cell_some hxw q1
      have q2 := Ext.cell_some hxw q2
      clear hj
      go_simp
      try go_bits
      exact toLabJ_any L S _ ar _ (HA.out.ext (Ext.trans E hxw)) hla
    · have a0 := Ext.cell_some hxw a0
      have a1 := Ext.cell_some hxw a1
      have a2 := Ext.cell_some hxw a2
      have q0 := Ext.cell_some hxw q0
      have q1 := Ext.cell_some hxw q1
      have q2 := Ext.cell_some hxw q2
      obtain ⟨p3, n3, c3, e3, r3⟩ := hj 2 (by kernel_rfl)
      clear hj
      go_simp
      (try rw [e3])
      exact eqLabels_same L S _ _ ar _ (HQ.out.ext hxw) r3
    · have a0 := Ext.cell_some hxw a0
      have a1 := Ext.cell_some hxw a1
      have a2 := Ext.cell_some hxw a2
      have q0 := Ext.cell_some hxw q0
      have q1 := Ext.cell_some hxw q1
      have q2 := Ext.cell_some hxw q2
      clear hj
      go_simp
      try go_bits
      first | rfl | (rw [if_pos (by omega), if_pos (by omega)]; go_simp; rfl) | (rw [if_pos (by omega)]; go_simp; rfl) | skip
  case' hx7_1_p =>
    intro vs w7 hx7 hk
    have k2 : (LabJ L S ar) (vs 2) w7 := hk 2 _ rfl
    clear hk
    replace a0 := Ext.cell_some hx7 a0
    replace a1 := Ext.cell_some hx7 a1
    replace a2 := Ext.cell_some hx7 a2
    replace q0 := Ext.cell_some hx7 q0
    replace q1 := Ext.cell_some hx7 q1
    replace q2 := Ext.cell_some hx7 q2
    replace E := Ext.trans E hx7
    go_simp
    clear k2 hx7
    go_wp2
    go_ret
    exact ⟨rfl, E⟩

set_option maxRecDepth 100000 in
set_option linter.unusedVariables false in
theorem fnExactIsLabels_lifted (os : Os) (started : os.Started) (H : Type) (enc : TypeId × Value → H) :
    ReturnsInHanded {} Try.checked os 4 .any (Rows.fnExactIsLabelsSpec.pre6 enc Try.prog Try.f4 Rows.fnExactIsLabelsRow.domain false) (Rows.fnExactIsLabelsSpec.post enc Try.prog Try.f4 false true false false) := by
  refine returnsInHanded_of_change (C := Try.checked) own started (by kernel_rfl) Try.func4
    (ChangeSpec.witness6 (enc := enc) (C := Try.checked) false ⟨#[], #[.agg #[.int .i64 0, .int .i64 0, .slice none 0 0]], []⟩ 8 (by kernel_rfl) (by kernel_rfl) (by kernel_rfl) (by kernel_rfl)) ?_
  intro W base args ds gs before hval0 hW hcnd _
  have hval : ∀ (j : Nat) t v, Try.f4.params[j]? = some t → args[j]? = some v → Value.okWide Try.prog W .any base t v := hval0
  have hW' := hW
  obtain ⟨p, q, hA0, hV, rfl, hfz, hnd⟩ := hW
  have hA : DataW.TrodAll enc Try.prog W 0 (fun _ => true) true Try.f4.params.toList args.toList ds p := hA0
  rw [Try.params4] at hA hval
  obtain ⟨v0, vs0, d0, ds0, p0, q0, hargs, rfl, rfl, h0, r0⟩ := trodAll_cons hA
  obtain ⟨rfl, rfl, rfl⟩ := trodAll_nil r0
  obtain rfl : args = #[v0] := by cases args; simp_all
  obtain ⟨rfl, rfl⟩ := trodVars_none hV
  have k0 := h0
  have lt0 : ∀ x ∈ p0, x.block < W.heap.size := by obtain ⟨m, hm⟩ := k0; exact DataW.trod_lt m _ _ _ hm
  obtain ⟨x0, y0, u0, xs0, rfl, wx0, wy0, rd0⟩ := labels_of_trod Try.underlying24 Try.underlying3 Try.underlying3 Try.underlying22 Try.underlying44 Try.underlying3 Try.underlying3 Try.underlying3 (by kernel_rfl) (by kernel_rfl) (by kernel_rfl) (by kernel_rfl) (by kernel_rfl) (by kernel_rfl) (by kernel_rfl) (by kernel_rfl) (by kernel_rfl) (hval 0 24 v0 rfl rfl) h0
  clear hA0 hval0
  refine (exactIsLabels_any x0 y0 u0 xs0 W wx0 wy0 rd0).mono fun e W' ⟨he, bel⟩ => ?_
  subst he
  exact ⟨_, rfl, _, _, _, [], _, [], hW', trodAll_mk1 (shut_bool Try.underlying4 _), (trodAll_cons_mk (Below.trod laidOut (by kernel_rfl) (of_decide_eq_true (by kernel_rfl)) k0 bel lt0) trodAll_mk0), rfl, Below.frame bel _, fun h => by cases h⟩

theorem fnExactIsLabels_holds : Rows.FnExactIsLabelsSaid :=
  OpenClaim.holds_of_wide 4 Try.f4 rfl rfl rfl rfl rfl rfl rfl ⟨rfl, rfl, rfl, rfl, rfl⟩ rfl rfl rfl rfl rfl (by kernel_rfl) Try.func4 (by show joinedFacts Try.prog 4 Try.f4 Rows.fnExactIsLabelsSpec Rows.fnExactIsLabelsRow = true; unfold joinedFacts; rw [mayEnter_it, liftsFinal_it, make_it]; kernel_rfl)
    (of_decide_eq_true (by kernel_rfl)) (by unfold Func.isWrapper; first | (rw [if_pos (by decide +kernel)]; kernel_rfl) | (rw [if_neg (by decide +kernel)]; exact ⟨rfl, rfl⟩))
    (fun os started H enc _ => fnExactIsLabels_lifted os started H enc)
end Go.Proofs.Ytjfgbnihnnlneaa

/- For all arguments the law FnExactPolyText returns true (the tied card). No conditions. -/
import Derived.Test.YtngbibaphakifaaDoorLawRes
import Derived.Test.YtngbibaphakifaaDoorOpen
import Derived.Test.YtngbibaphakifaaDoorTie
import Derived.Test.YtngbibaphakifaaDoorCards
import Derived.LaidLaws
import Derived.LaidMore
import Derived.LaidHandle
import Derived.SevenTiedAt
import Derived.Test.YtngbibaphakifaaDoorPolA
import Derived.Test.YtngbibaphakifaaDoorLaidTab
namespace Go.Proofs.YtngbibaphakifaaDoor
open Go.ChangeShapes Go.WideShapes Go.ChangeAt Go.RowKit Go.Mx

set_option maxRecDepth 100000 in
set_option maxHeartbeats 2000000 in
theorem exactPolyText_of (v0 : Value) (m0 : List Int) (y0 : ByteArray) (w : World) (A0 : ReadsI w v0 m0) (ht : TabC w)
    (hspec : m0.length ≤ 1048576 → ∀ (w : World) (u0 : Value) (_ : ReadsI w u0 m0), Calls Tryd.prog 7 #[u0] w fun e w' => e = .returned (.string y0) ∧ Ext w w')
    (himpl : m0.length ≤ 1048576 → ∀ (w : World) (u0 : Value) (_ : ReadsI w u0 m0) (_ : TabC w), Calls Tryd.prog 9 #[u0] w fun e w' => e = .returned (.string y0) ∧ Ext w w') :
    Calls Tryd.prog 3 #[v0] w fun e w' => e = .returned (.bool true) ∧ Ext w w' := by
  have HS := Lib.hid hspec
  have HI := Lib.hid himpl
  have HT := Lib.hid ht
  clear hspec himpl ht
  obtain ⟨a0, c0, rfl⟩ := A0.slice
  by_cases L0 : m0.length ≤ 1048576
  rotate_left
  · go_enter Tryd.func3, Tryd.ntmps3
    go_wp2
    go_ret
    exact ⟨rfl, Ext.refl _⟩
  have E0 := Ext.refl w
  go_enter Tryd.func3, Tryd.ntmps3
  go_wp2_with fail
  with_reducible refine (toResI_any _ m0 _ (A0.ext E0) L0).mono ?_
  rintro e w1 ⟨rfl, T0, hy⟩
  have z1 := Lib.hid (show w.heap.size ≤ w1.heap.size from hy.size)
  replace E0 := E0.trans hy
  clear hy
  go_wp2_with fail
  with_reducible refine (HS.out L0 _ _ T0.reads).mono ?_
  rintro e w2 ⟨rfl, hy⟩
  clear T0
  have z2 := Lib.hid (show w1.heap.size ≤ w2.heap.size from hy.size)
  replace E0 := E0.trans hy
  clear hy
  go_wp2_with fail
  with_reducible refine (toResI_any _ m0 _ (A0.ext E0) L0).mono ?_
  rintro e w3 ⟨rfl, X0, hy⟩
  have z3 := Lib.hid (show w2.heap.size ≤ w3.heap.size from hy.size)
  replace E0 := E0.trans hy
  clear hy
  go_wp2_with fail
  with_reducible refine (HI.out L0 _ _ X0.reads (HT.out.ext E0)).mono ?_
  rintro e w4 ⟨rfl, hy⟩
  have z4 := Lib.hid (show w3.heap.size ≤ w4.heap.size from hy.size)
  replace E0 := E0.trans hy
  replace X0 := X0.ext hy
  clear hy
  go_wp2_with fail
  with_reducible refine (toResI_any _ m0 _ (A0.ext E0) L0).mono ?_
  rintro e w5 ⟨rfl, T0, hy⟩
  have z5 := Lib.hid (show w4.heap.size ≤ w5.heap.size from hy.size)
  replace E0 := E0.trans hy
  replace X0 := X0.ext hy
  clear hy
  go_wp2_with fail
  with_reducible refine (eqIntS_same _ _ m0 _ X0.reads T0.reads).mono ?_
  rintro e w6 ⟨rfl, hy⟩
  have z6 := Lib.hid (show w5.heap.size ≤ w6.heap.size from hy.size)
  replace E0 := E0.trans hy
  replace X0 := X0.ext hy
  replace T0 := T0.ext hy
  clear hy
  clear T0
  go_wp2
  go_ret
  exact ⟨rfl, E0⟩

theorem exactPolyText_any (v0 : Value) (m0 : List Int) (w : World) (A0 : ReadsI w v0 m0 ∧ InI64 m0) (ht : TabC w) :
    Calls Tryd.prog 3 #[v0] w fun e w' => e = .returned (.bool true) ∧ Ext w w' :=
  exactPolyText_of v0 m0 _ w A0.1 ht (fun hl w u0 h => spec_PolyText_any u0 m0 w h A0.2 hl) (fun hl w u0 h ht => impl_PolyText_any u0 m0 w h A0.2 hl ht)

/-- The door's own heap meets the condition. -/
theorem fnExactPolyText_door (os : Os) (args : Array Value) : laidMetH Tryd.prog Rows.fnExactPolyTextRow.laid ((World.doorLaid Tryd.prog 400 os).forCall (fun _ _ => 0) ⟨#[], args, []⟩).memory :=
  laidMetH_of_parts3 (fuel := 8) (laidMet_of_run' 8 (by kernel_rfl) (by kernel_rfl)) (by kernel_rfl) (by kernel_rfl)
set_option maxRecDepth 100000 in
set_option linter.unusedVariables false in
theorem fnExactPolyText_lifted (os : Os) (started : os.Started) (H : Type) (enc : TypeId × Value → H) :
    ReturnsInHanded {} Tryd.checked os 3 .any (fun w args => (Rows.fnExactPolyTextSpec.pre enc Tryd.prog Tryd.f3 [] false w args ∧ laidMetH Tryd.prog Rows.fnExactPolyTextRow.laid w) ∧ sizedMet enc Tryd.prog Tryd.f3 (OpenSpec.ofChange Rows.fnExactPolyTextSpec) false w args) (Rows.fnExactPolyTextSpec.post enc Tryd.prog Tryd.f3 false true false false) := by
  refine returnsInHanded_of_change_and (C := Tryd.checked) (X := fun w _ => laidMetH Tryd.prog Rows.fnExactPolyTextRow.laid w) (fun _ _ _ hh h => h.of_heap hh) own started (by kernel_rfl) Tryd.func3
    (ChangeSpec.witness_shaped (enc := enc) (C := Tryd.checked) (os := os) (X := fun w _ => laidMetH Tryd.prog Rows.fnExactPolyTextRow.laid w) false (World.doorLaid Tryd.prog 400 os) #[.slice none 0 0] 8 rfl (World.shaped_of_RefB (by kernel_rfl) (by kernel_rfl)) (by kernel_rfl) (by kernel_rfl) (by kernel_rfl) (fnExactPolyText_door os _)) ?_
  intro W base args ds gs before hval0 hW hcnd _ hL _
  have hval : ∀ (j : Nat) t v, Tryd.f3.params[j]? = some t → args[j]? = some v → Value.okWide Tryd.prog W .any base t v := hval0
  have hW' := hW
  obtain ⟨p, q, hA0, hV, rfl, hfz, hnd⟩ := hW
  have hA : DataW.TrodAll enc Tryd.prog W 0 (fun _ => true) true Tryd.f3.params.toList args.toList ds p := hA0
  rw [Tryd.params3] at hA hval
  obtain ⟨v0, vs0, d0, ds0, p0, q0, hargs, rfl, rfl, h0, r0⟩ := trodAll_cons hA
  obtain ⟨rfl, rfl, rfl⟩ := trodAll_nil r0
  obtain rfl : args = #[v0] := by cases args; simp_all
  obtain ⟨rfl, rfl⟩ := trodVars_none hV
  have k0 := h0
  have lt0 : ∀ x ∈ p0, x.block < W.heap.size := by obtain ⟨m, hm⟩ := k0; exact DataW.trod_lt m _ _ _ hm
  obtain ⟨xs0, rd0⟩ := ints_of_trod Tryd.underlying22 Tryd.underlying3 (by kernel_rfl) (hval 0 22 v0 rfl rfl) h0
  clear hA0 hval0
  refine (exactPolyText_any v0 xs0 W rd0 (tabC_of 2 hL (by rfl) (by rfl))).mono fun e W' ⟨he, bel⟩ => ?_
  subst he
  exact ⟨_, rfl, _, _, _, [], _, [], hW', trodAll_mk1 (shut_bool Tryd.underlying4 _), (trodAll_cons_mk (Below.trod laidOut (by kernel_rfl) (of_decide_eq_true (by kernel_rfl)) k0 bel lt0) trodAll_mk0), rfl, Below.frame bel _, fun h => by cases h⟩

theorem fnExactPolyText_holds : Rows.FnExactPolyTextSaid :=
  OpenClaim.holds_of_wide 3 Tryd.f3 rfl rfl rfl rfl rfl rfl rfl ⟨rfl, rfl, rfl, rfl, rfl⟩ rfl rfl rfl rfl rfl (by kernel_rfl) Tryd.func3 (by kernel_rfl)
    (of_decide_eq_true (by kernel_rfl)) (by unfold Func.isWrapper; first | (rw [if_pos (by decide +kernel)]; kernel_rfl) | (rw [if_neg (by decide +kernel)]; exact ⟨rfl, rfl⟩))
    (fun os started H enc _ => fnExactPolyText_lifted os started H enc)

theorem fnExactPolyText_card : Rows.FnExactPolyTextCardSaid :=
  Claim7.holds_tied_plain_at .later [] [.data, .data, .data] true (true, "89564ac2c1f05127b4304becf5bd209cb903fa0db5cb8a378716f1050328234a") false
    fnExactPolyText_holds (fun _ h => by cases h) (by kernel_rfl) (fun _ h => by cases h) fnExactPolyText_row_tie rfl ⟨rfl, rfl⟩ (by kernel_rfl) rfl
    (fun f fn hf hfn => by
      obtain rfl : f = 3 := Option.some.inj ((show Tryd.prog.funcNamed "loop.example/g03103/laws.FnExactPolyText" = some 3 by kernel_rfl).symm.trans hf) |>.symm
      obtain rfl : fn = Tryd.f3 := (Option.some.inj (Tryd.func3.symm.trans hfn)).symm
      exact ⟨by kernel_rfl, fun j t ht => by
        rw [Tryd.params3] at ht
        have hm : t ∈ [22] := by simpa using Array.mem_of_getElem? ht
        have hall : ([22].all fun u => !Tryd.prog.wantsStandIn u) = true := by kernel_rfl
        exact (show Tryd.prog.wantsStandIn t = false by simpa using List.all_eq_true.1 hall t hm)⟩)
    (by kernel_rfl)
end Go.Proofs.YtngbibaphakifaaDoor

/- For all arguments the law FnExactBlockWords returns true (the tied card). No conditions. -/
import Derived.Test.YtgbbidlbdjbilaaDoorLawU
import Derived.Test.YtgbbidlbdjbilaaDoorBlwB
import Derived.Test.YtgbbidlbdjbilaaDoorLaidTab
import Derived.Test.YtgbbidlbdjbilaaDoorOpen
import Derived.Test.YtgbbidlbdjbilaaDoorTie
import Derived.Test.YtgbbidlbdjbilaaDoorCards
import Derived.LaidLaws
import Derived.LaidMore
import Derived.LaidHandle
import Derived.SevenTiedAt
namespace Go.Proofs.YtgbbidlbdjbilaaDoor
open Go.ChangeShapes Go.WideShapes Go.ChangeAt Go.RowKit Go.Cm

/-- what the walk asks of the library's variables -/
def MT (w : World) : Prop := MaxC w ∧ TabC w
theorem MT.ext {w w' : World} (h : MT w) (hx : Ext w w') : MT w' := ⟨h.1.ext hx, h.2.ext hx⟩
theorem BlockWords_small (L n : Int) (F : List (List UInt8)) : (blockL L F n).length ≤ 1048576 := by
  unfold blockL
  split
  · split
    · rw [List.length_map]
      have := langOf_length L (n + 1) F
      omega
    · simp
  · simp
set_option maxRecDepth 100000 in
set_option maxHeartbeats 4000000 in
theorem exactBlockWords_any (L : Int) (u : Value) (xs : List ByteArray) (n : Int) (w : World) (_ : -9223372036854775808 ≤ L ∧ L ≤ 9223372036854775807) (A : ReadsS w u xs ∧ ∀ s ∈ xs, s.size ≤ maxLen) (hn : (Lit.int .i64 n).wf = true) (hm : MT w) :
    Calls Tryd.prog 3 #[.agg #[.int .i64 L, u], .int .i64 n] w fun e w' => e = .returned (.bool true) ∧ Ext w w' := by
  obtain ⟨F, hR, hF⟩ := shift_arg A
  clear A
  have hn' := i64_bounds hn
  clear hn
  obtain ⟨pa, ca, rfl⟩ := hR.slice
  have HW := Lib.hid (Ext.alloc w (.cells #[.int .i64 L, .slice pa F.length ca] 24))
  have HA := Lib.hid (And.intro hR (And.intro hF hm))
  clear hR hF hm
  have HC := Lib.hid (show ∀ w1, Ext (w.alloc (.cells #[.int .i64 L, .slice pa F.length ca] 24)) w1 → w1.cell? ⟨w.heap.size, 0, none⟩ = some (.int .i64 L) ∧ w1.cell? ⟨w.heap.size, 1, none⟩ = some (.slice pa F.length ca) from
    fun w1 hx => ⟨hx.cell_some (by simp), hx.cell_some (by simp)⟩)
  obtain ⟨l1, hl1⟩ : ∃ l, l = leftW 1048576 F := ⟨_, rfl⟩
  have hsz := fun w h => szShift_any L (.slice pa F.length ca) F 1048576 w (by omega) (by omega) h HA.out.2.1
  have hfit := fun h => leftW_fits (l := 1048576) (F := F) (by omega) h
  rw [← hl1] at hsz hfit
  have HL := Lib.hid (And.intro hsz hfit)
  clear hsz hfit hl1
  obtain ⟨r, hr⟩ : ∃ r, r = blockL L F n := ⟨_, rfl⟩
  have hsp := fun w u h => spec_BlockWords_any L n u F w h HA.out.2.1
  have him := fun w u h (hm : MT w) => impl_BlockWords_any L n u F w h hm.1 hm.2 HA.out.2.1
  have hrl : r.length ≤ 1048576 := by rw [hr]; exact BlockWords_small L n F
  rw [← hr] at hsp him
  have HE := Lib.hid (And.intro hsp him)
  clear hsp him hr
  go_enter Tryd.func3, Tryd.ntmps3
  go_wp2_with fail
  with_reducible refine (HL.out.1 _ (HA.out.1.ext HW.out)).mono ?_
  rintro e w1 ⟨rfl, hx⟩
  have E := Ext.trans HW.out hx
  have z1 := Lib.hid (And.intro hx.size E.size)
  obtain ⟨a0, a1⟩ := HC.out w1 hx
  by_cases hneg : l1 < 0
  · go_wp2
    go_ret
    exact ⟨rfl, E⟩
  obtain ⟨hs0, hs1, -⟩ := HL.out.2 (by omega)
  go_wp2_with fail
  with_reducible refine (toShift_any L _ F _ (HA.out.1.ext E) hs0).mono ?_
  rintro e w2 ⟨g1, rfl, Tg1, hy⟩
  replace E := E.trans hy
  replace hx := hx.trans hy
  have z2 := Lib.hid (show w1.heap.size ≤ w2.heap.size from hy.size)
  clear hy a0 a1
  obtain ⟨a0, a1⟩ := HC.out w2 hx
  replace Tg1 := RowB.of Tg1
  go_wp2_with fail
  with_reducible refine (HE.out.1 _ _ Tg1.reads).mono ?_
  rintro e w3 ⟨v0, rfl, V0, hy⟩
  replace E := E.trans hy
  replace hx := hx.trans hy
  have z3 := Lib.hid (show w2.heap.size ≤ w3.heap.size from hy.size)
  clear hy a0 a1
  obtain ⟨a0, a1⟩ := HC.out w3 hx
  clear Tg1
  replace V0 := RowB.of V0
  go_wp2_with fail
  with_reducible refine (toShift_any L _ F _ (HA.out.1.ext E) hs0).mono ?_
  rintro e w4 ⟨x1, rfl, Tx1, hy⟩
  replace E := E.trans hy
  replace hx := hx.trans hy
  replace V0 := V0.ext hy
  have z4 := Lib.hid (show w3.heap.size ≤ w4.heap.size from hy.size)
  clear hy a0 a1
  obtain ⟨a0, a1⟩ := HC.out w4 hx
  replace Tx1 := RowB.of Tx1
  go_wp2_with fail
  with_reducible refine (HE.out.2 _ _ (Tx1.ext (Ext.alloc _ _)).reads (HA.out.2.2.ext (E.trans (Ext.alloc _ _)))).mono ?_
  rintro e w5 ⟨v1, rfl, G0, hy⟩
  have b0 := hy.cell_some (show (w4.alloc (.cells #[.int .i64 L, .slice (some ⟨x1, 0, none⟩) F.length F.length] 27)).cell? ⟨w4.heap.size, 0, none⟩ = some (.int .i64 L) by simp)
  have b1 := hy.cell_some (show (w4.alloc (.cells #[.int .i64 L, .slice (some ⟨x1, 0, none⟩) F.length F.length] 27)).cell? ⟨w4.heap.size, 1, none⟩ = some (.slice (some ⟨x1, 0, none⟩) F.length F.length) by simp)
  have zb := Lib.hid (show w4.heap.size < w5.heap.size by have := hy.size; simp at this; omega)
  have zc := Lib.hid (show w4.heap.size < (w4.alloc (.cells #[.int .i64 L, .slice (some ⟨x1, 0, none⟩) F.length F.length] 27)).heap.size by simp)
  replace G0 := RowB.of G0
  replace hy := (Ext.alloc w4 (.cells #[.int .i64 L, .slice (some ⟨x1, 0, none⟩) F.length F.length] 27)).trans hy
  replace E := E.trans hy
  replace hx := hx.trans hy
  replace V0 := V0.ext hy
  replace Tx1 := Tx1.ext hy
  have z5 := Lib.hid (show w4.heap.size ≤ w5.heap.size from hy.size)
  clear hy a0 a1
  obtain ⟨a0, a1⟩ := HC.out w5 hx
  go_wp2_with fail
  with_reducible refine (eqStringS_same _ _ r _ G0.reads V0.reads).mono ?_
  rintro e w6 ⟨rfl, hy⟩
  replace b0 := hy.cell_some b0
  replace b1 := hy.cell_some b1
  replace E := E.trans hy
  replace hx := hx.trans hy
  replace V0 := V0.ext hy
  replace Tx1 := Tx1.ext hy
  replace G0 := G0.ext hy
  have z6 := Lib.hid (show w5.heap.size ≤ w6.heap.size from hy.size)
  clear hy a0 a1
  obtain ⟨a0, a1⟩ := HC.out w6 hx
  go_wp2
  refine wp_region_inv (by kernel_rfl) (.known ?hy_1_v0 :: .known ?hy_1_v1 :: .such (ShJ L F) (ShJ.ok _ _) :: .known (.bool true) :: .known ?hy_1_v4 :: []) rfl (by kernel_rfl) ?hy_1_s ?hy_1_p
  case hy_1_s =>
    intro vs
    refine ⟨fun w' hxw hj => ?_, fun w' hxw hj => ?_, fun w' hxw hj => ?_, fun w' hxw hj => ?_, fun w' hxw hj => ?_, trivial⟩
    · have a0 := Ext.cell_some hxw a0
      have a1 := Ext.cell_some hxw a1
      have b0 := Ext.cell_some hxw b0
      have b1 := Ext.cell_some hxw b1
      clear hj
      go_simp
      try go_bits
      first | rfl | (rw [if_pos (by omega), if_pos (by omega)]; go_simp; rfl) | (rw [if_pos (by omega)]; go_simp; rfl) | skip
    · have a0 := Ext.cell_some hxw a0
      have a1 := Ext.cell_some hxw a1
      have b0 := Ext.cell_some hxw b0
      have b1 := Ext.cell_some hxw b1
      clear hj
      go_simp
      try go_bits
      first | rfl | (rw [if_pos (by omega), if_pos (by omega)]; go_simp; rfl) | (rw [if_pos (by omega)]; go_simp; rfl) | skip
    · have a0 := Ext.cell_some hxw a0
      have a1 := Ext.cell_some hxw a1
      have b0 := Ext.cell_some hxw b0
      have b1 := Ext.cell_some hxw b1
      clear hj
      go_simp
      try go_bits
      exact toShJ_any L _ F _ (HA.out.1.ext (E.trans hxw)) hs0
    · have a0 := Ext.cell_some hxw a0
      have a1 := Ext.cell_some hxw a1
      have b0 := Ext.cell_some hxw b0
      have b1 := Ext.cell_some hxw b1
      obtain ⟨p3, n3, c3, e3, r3⟩ := hj 2 (by kernel_rfl)
      clear hj
      go_simp
      (try rw [e3])
      exact eqShift_same L _ _ F _ ((Tx1.ext hxw).reads) r3
    · have a0 := Ext.cell_some hxw a0
      have a1 := Ext.cell_some hxw a1
      have b0 := Ext.cell_some hxw b0
      have b1 := Ext.cell_some hxw b1
      clear hj
      go_simp
      try go_bits
      first | rfl | (rw [if_pos (by omega), if_pos (by omega)]; go_simp; rfl) | (rw [if_pos (by omega)]; go_simp; rfl) | skip
  case' hy_1_p =>
    intro vs w7 hy hk
    have k2 : (ShJ L F) (vs 2) w7 := hk 2 _ rfl
    clear hk
    replace a0 := Ext.cell_some hy a0
    replace a1 := Ext.cell_some hy a1
    replace b0 := Ext.cell_some hy b0
    replace b1 := Ext.cell_some hy b1
    go_simp
    clear k2
    replace E := E.trans hy
    replace hx := hx.trans hy
    replace V0 := V0.ext hy
    replace Tx1 := Tx1.ext hy
    replace G0 := G0.ext hy
    have z7 := Lib.hid (show w6.heap.size ≤ w7.heap.size from hy.size)
    clear hy
    go_wp2_with fail
    with_reducible refine (markShift_any _ L _ F 1 _ Tx1.own (by omega) (by omega)).mono ?_
    rintro e w8 ⟨rfl, hg, ho⟩
    clear ho b0 b1
    replace E := RowB.extgb E Tx1 hg (by have q1 := z1.out; have q2 := z2.out; have q3 := z3.out; have q4 := z4.out; have qb := zb.out; have qc := zc.out; have q5 := z5.out; have q6 := z6.out; have q7 := z7.out; omega)
    replace hx := RowB.extgb hx Tx1 hg (by have q1 := z1.out; have q2 := z2.out; have q3 := z3.out; have q4 := z4.out; have qb := zb.out; have qc := zc.out; have q5 := z5.out; have q6 := z6.out; have q7 := z7.out; omega)
    replace V0 := RowB.gb V0 Tx1 hg (.inl (by have q1 := z1.out; have q2 := z2.out; have q3 := z3.out; have q4 := z4.out; have qb := zb.out; have qc := zc.out; have q5 := z5.out; have q6 := z6.out; have q7 := z7.out; omega))
    replace G0 := RowB.gb G0 Tx1 hg (.inr (by have q1 := z1.out; have q2 := z2.out; have q3 := z3.out; have q4 := z4.out; have qb := zb.out; have qc := zc.out; have q5 := z5.out; have q6 := z6.out; have q7 := z7.out; omega))
    have z8 := Lib.hid (show w7.heap.size ≤ w8.heap.size from hg.size)
    clear hg Tx1 a0 a1
    obtain ⟨a0, a1⟩ := HC.out w8 hx
    go_wp2_with fail
    with_reducible refine (eqStringS_same _ _ r _ G0.reads V0.reads).mono ?_
    rintro e w9 ⟨rfl, hy⟩
    replace E := E.trans hy
    replace hx := hx.trans hy
    replace V0 := V0.ext hy
    replace G0 := G0.ext hy
    have z9 := Lib.hid (show w8.heap.size ≤ w9.heap.size from hy.size)
    clear hy a0 a1
    obtain ⟨a0, a1⟩ := HC.out w9 hx
    go_wp2_with fail
    with_reducible refine (markStringS_any _ _ r 1 _ G0.own (by omega) (by omega)).mono ?_
    rintro e w10 ⟨rfl, hg, ho⟩
    have hbd := G0.2
    have H0 : RowB w10 _ _ v1 (marksW 1 r.length) := ⟨ho, hbd⟩
    clear ho hbd
    replace E := RowB.extgb E G0 hg (by have q1 := z1.out; have q2 := z2.out; have q3 := z3.out; have q4 := z4.out; have qb := zb.out; have qc := zc.out; have q5 := z5.out; have q6 := z6.out; have q7 := z7.out; have q8 := z8.out; have q9 := z9.out; omega)
    replace hx := RowB.extgb hx G0 hg (by have q1 := z1.out; have q2 := z2.out; have q3 := z3.out; have q4 := z4.out; have qb := zb.out; have qc := zc.out; have q5 := z5.out; have q6 := z6.out; have q7 := z7.out; have q8 := z8.out; have q9 := z9.out; omega)
    replace V0 := RowB.gb V0 G0 hg (.inl (by have q1 := z1.out; have q2 := z2.out; have q3 := z3.out; have q4 := z4.out; have qb := zb.out; have qc := zc.out; have q5 := z5.out; have q6 := z6.out; have q7 := z7.out; have q8 := z8.out; have q9 := z9.out; omega))
    have z10 := Lib.hid (show w9.heap.size ≤ w10.heap.size from hg.size)
    clear hg G0 a0 a1
    obtain ⟨a0, a1⟩ := HC.out w10 hx
    go_wp2_with fail
    with_reducible refine (heldStringS_same _ r.length 1 _ H0.reads (by omega) (by omega)).mono ?_
    rintro e w11 ⟨rfl, hy⟩
    replace E := E.trans hy
    replace hx := hx.trans hy
    replace V0 := V0.ext hy
    replace H0 := H0.ext hy
    have z11 := Lib.hid (show w10.heap.size ≤ w11.heap.size from hy.size)
    clear hy a0 a1
    obtain ⟨a0, a1⟩ := HC.out w11 hx
    go_wp2_with fail
    with_reducible refine (toShift_any L _ F _ (HA.out.1.ext E) hs0).mono ?_
    rintro e w12 ⟨g2, rfl, Tg2, hy⟩
    replace E := E.trans hy
    replace hx := hx.trans hy
    replace V0 := V0.ext hy
    replace H0 := H0.ext hy
    have z12 := Lib.hid (show w11.heap.size ≤ w12.heap.size from hy.size)
    clear hy a0 a1
    obtain ⟨a0, a1⟩ := HC.out w12 hx
    replace Tg2 := RowB.of Tg2
    go_wp2_with fail
    with_reducible refine (HE.out.2 _ _ Tg2.reads (HA.out.2.2.ext E)).mono ?_
    rintro e w13 ⟨v2, rfl, G1, hy⟩
    clear Tg2
    replace E := E.trans hy
    replace hx := hx.trans hy
    replace V0 := V0.ext hy
    replace H0 := H0.ext hy
    have z13 := Lib.hid (show w12.heap.size ≤ w13.heap.size from hy.size)
    clear hy a0 a1
    obtain ⟨a0, a1⟩ := HC.out w13 hx
    replace G1 := RowB.of G1
    go_wp2_with fail
    with_reducible refine (eqStringS_same _ _ r _ G1.reads V0.reads).mono ?_
    rintro e w14 ⟨rfl, hy⟩
    replace E := E.trans hy
    replace hx := hx.trans hy
    replace V0 := V0.ext hy
    replace H0 := H0.ext hy
    replace G1 := G1.ext hy
    have z14 := Lib.hid (show w13.heap.size ≤ w14.heap.size from hy.size)
    clear hy a0 a1
    obtain ⟨a0, a1⟩ := HC.out w14 hx
    go_wp2_with fail
    with_reducible refine (heldStringS_same _ r.length 1 _ H0.reads (by omega) (by omega)).mono ?_
    rintro e w15 ⟨rfl, hy⟩
    replace E := E.trans hy
    replace hx := hx.trans hy
    replace V0 := V0.ext hy
    replace H0 := H0.ext hy
    replace G1 := G1.ext hy
    have z15 := Lib.hid (show w14.heap.size ≤ w15.heap.size from hy.size)
    clear hy a0 a1
    obtain ⟨a0, a1⟩ := HC.out w15 hx
    go_wp2
    go_ret
    exact ⟨rfl, E⟩

/-- The door's own heap meets the condition. -/
theorem fnExactBlockWords_door (os : Os) (args : Array Value) : laidMetH Tryd.prog Rows.fnExactBlockWordsRow.laid ((World.doorLaid Tryd.prog 400 os).forCall (fun _ _ => 0) ⟨#[], args, []⟩).memory :=
  laidMetH_of_parts3 (fuel := 8) (laidMet_of_run' 8 (by kernel_rfl) (by kernel_rfl)) (by kernel_rfl) (by kernel_rfl)
set_option maxRecDepth 100000 in
set_option linter.unusedVariables false in
theorem fnExactBlockWords_lifted (os : Os) (started : os.Started) (H : Type) (enc : TypeId × Value → H) :
    ReturnsInHanded {} Tryd.checked os 3 .any (fun w args => (Rows.fnExactBlockWordsSpec.pre enc Tryd.prog Tryd.f3 [] false w args ∧ laidMetH Tryd.prog Rows.fnExactBlockWordsRow.laid w) ∧ sizedMet enc Tryd.prog Tryd.f3 (OpenSpec.ofChange Rows.fnExactBlockWordsSpec) false w args) (Rows.fnExactBlockWordsSpec.post enc Tryd.prog Tryd.f3 false true false false) := by
  refine handed_and_shaped (C := Tryd.checked) (X := fun w _ => laidMetH Tryd.prog Rows.fnExactBlockWordsRow.laid w) (fun _ _ _ hh h => h.of_heap hh) own started (by kernel_rfl) Tryd.func3
    (ChangeSpec.witness_shaped (enc := enc) (C := Tryd.checked) (os := os) (X := fun w _ => laidMetH Tryd.prog Rows.fnExactBlockWordsRow.laid w) false (World.doorLaid Tryd.prog 400 os) #[.agg #[.int .i64 0, .slice none 0 0], .int .i64 0] 8 rfl (World.shaped_of_RefB (by kernel_rfl) (by kernel_rfl)) (by kernel_rfl) (by kernel_rfl) (by kernel_rfl) (fnExactBlockWords_door os _)) ?_
  intro W base args ds gs before hval0 hW hcnd _ hL hsh _
  have hval : ∀ (j : Nat) t v, Tryd.f3.params[j]? = some t → args[j]? = some v → Value.okWide Tryd.prog W .any base t v := hval0
  have hW' := hW
  obtain ⟨p, q, hA0, hV, rfl, hfz, hnd⟩ := hW
  have hA : DataW.TrodAll enc Tryd.prog W 0 (fun _ => true) true Tryd.f3.params.toList args.toList ds p := hA0
  rw [Tryd.params3] at hA hval
  obtain ⟨v0, vs0, d0, ds0, p0, q0, hargs, rfl, rfl, h0, r0⟩ := trodAll_cons hA
  obtain ⟨v1, vs1, d1, ds1, p1, q1, rfl, rfl, rfl, h1, r1⟩ := trodAll_cons r0
  obtain ⟨rfl, rfl, rfl⟩ := trodAll_nil r1
  obtain rfl : args = #[v0, v1] := by cases args; simp_all
  obtain ⟨rfl, rfl⟩ := trodVars_none hV
  have k0 := h0
  have lt0 : ∀ x ∈ p0, x.block < W.heap.size := by obtain ⟨m, hm⟩ := k0; exact DataW.trod_lt m _ _ _ hm
  obtain ⟨x0, u0, xs0, rfl, wx0, rd0⟩ := shift_of_trod Tryd.underlying24 Tryd.underlying3 Tryd.underlying22 Tryd.underlying9 (by kernel_rfl) (by kernel_rfl) (by kernel_rfl) (hval 0 24 v0 rfl rfl) h0
  have k1 := h1
  have lt1 : ∀ x ∈ p1, x.block < W.heap.size := by obtain ⟨m, hm⟩ := k1; exact DataW.trod_lt m _ _ _ hm
  obtain ⟨a1, rfl, rfl, rfl, wf1⟩ := open_int Tryd.underlying3 (hval 1 3 v1 rfl rfl) h1
  clear hA0 hval0
  refine (exactBlockWords_any x0 u0 xs0 a1 W wx0 rd0 wf1 ⟨MaxC.of hsh, tabC_of 2 hL (by rfl) (by rfl)⟩).mono fun e W' ⟨he, bel⟩ => ?_
  subst he
  exact ⟨_, rfl, _, _, _, [], _, [], hW', trodAll_mk1 (shut_bool Tryd.underlying4 _), (trodAll_cons_mk (Below.trod laidOut (by kernel_rfl) (of_decide_eq_true (by kernel_rfl)) k0 bel lt0) (trodAll_cons_mk (Below.trod laidOut (by kernel_rfl) (of_decide_eq_true (by kernel_rfl)) k1 bel lt1) trodAll_mk0)), rfl, Below.frame bel _, fun h => by cases h⟩

theorem fnExactBlockWords_holds : Rows.FnExactBlockWordsSaid :=
  OpenClaim.holds_of_wide 3 Tryd.f3 rfl rfl rfl rfl rfl rfl rfl ⟨rfl, rfl, rfl, rfl, rfl⟩ rfl rfl rfl rfl rfl (by kernel_rfl) Tryd.func3 (by kernel_rfl)
    (of_decide_eq_true (by kernel_rfl)) (by unfold Func.isWrapper; first | (rw [if_pos (by decide +kernel)]; kernel_rfl) | (rw [if_neg (by decide +kernel)]; exact ⟨rfl, rfl⟩))
    (fun os started H enc _ => fnExactBlockWords_lifted os started H enc)

theorem fnExactBlockWords_card : Rows.FnExactBlockWordsCardSaid :=
  Claim7.holds_tied_plain_at .later [] [.data, .data, .data] true (true, "d6bfa2aa1b1bf6a4267524f537490e2af52e0a524dc4039a2acbfb0aa46dc652") false
    fnExactBlockWords_holds (fun _ h => by cases h) (by kernel_rfl) (fun _ h => by cases h) fnExactBlockWords_row_tie rfl ⟨rfl, rfl⟩ (by kernel_rfl) rfl
    (fun f fn hf hfn => by
      obtain rfl : f = 3 := Option.some.inj ((show Tryd.prog.funcNamed "loop.example/g03103/laws.FnExactBlockWords" = some 3 by kernel_rfl).symm.trans hf) |>.symm
      obtain rfl : fn = Tryd.f3 := (Option.some.inj (Tryd.func3.symm.trans hfn)).symm
      exact ⟨by kernel_rfl, fun j t ht => by
        rw [Tryd.params3] at ht
        have hm : t ∈ [24, 3] := by simpa using Array.mem_of_getElem? ht
        have hall : ([24, 3].all fun u => !Tryd.prog.wantsStandIn u) = true := by kernel_rfl
        exact (show Tryd.prog.wantsStandIn t = false by simpa using List.all_eq_true.1 hall t hm)⟩)
    (by kernel_rfl)
end Go.Proofs.YtgbbidlbdjbilaaDoor

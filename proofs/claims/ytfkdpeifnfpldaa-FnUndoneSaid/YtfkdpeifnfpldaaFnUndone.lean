/- For every code the law FnUndone returns true. No conditions. -/
import Derived.Test.YtfkdpeifnfpldaaUndFacts
import Derived.Test.YtfkdpeifnfpldaaDrwF
import Derived.Test.YtfkdpeifnfpldaaBig
import Derived.Test.YtfkdpeifnfpldaaOpen
import Derived.Deep.DeepCutAuto
namespace Go.Proofs.Ytfkdpeifnfpldaa
open Go.ChangeShapes Go.WideShapes Go.ChangeAt Go.RowKit Go.Cm
open Go.ChangeMaps (open_string shut_string)

set_option maxRecDepth 100000 in
set_option maxHeartbeats 40000000 in
theorem fnUndone_any (v : Value) (xs : List UInt8) (w : World) (h : ReadsB w v xs) :
    Calls Try.prog 4 #[v] w fun e w' => e = .returned (.bool true) ∧ Ext w w' := by
  have hx := Ext.refl w
  go_enter Try.func4, Try.ntmps4
  go_wp2_with fail
  with_reducible refine (laws_big_any v xs _ h).mono ?_
  rintro e w1 ⟨b, rfl, rfl⟩
  cases b
  rotate_left
  · go_wp2
    go_ret
    exact ⟨rfl, hx⟩
  go_wp2_with fail
  with_reducible refine (spec_DrawUndoingCode_any v xs _ h).mono ?_
  rintro e w1 ⟨⟨_, n1, rfl, ⟨L1, W1, o1, rfl, ho1⟩⟩, hy⟩
  replace hx := hx.trans hy
  clear hy
  obtain ⟨x1, y1, s1, a1, b1, hu1, hu2, hu⟩ := undo_facts L1 W1 n1 o1 (by unfold maxLen; omega)
  have hon := fun w => impl_IsOneToOne_all L1 W1 o1 w (by unfold maxLen; omega)
  obtain ⟨on1, hone⟩ : ∃ on, on = oneAny L1 W1 o1 := ⟨_, rfl⟩
  rw [← hone] at hon hu
  have H1 := Lib.hid (And.intro hu1 (And.intro hu2 (And.intro hu hon)))
  clear hu1 hu2 hu hon hone
  have bc : Blk (w1.alloc (.cells #[.int .i64 L1, .int .i64 W1, .string o1] 25)) w1.heap.size #[.int .i64 L1, .int .i64 W1, .string o1] := by (repeat (first | (refine Blk.mk' ?_; (simp; done)) | apply Blk.old))
  replace hx := hx.trans (Ext.alloc w1 (.cells #[.int .i64 L1, .int .i64 W1, .string o1] 25))
  obtain ⟨c0, c1, c2, -, -, -⟩ := bc.c3
  go_wp2_with fail
  with_reducible refine (H1.out.1 _).mono ?_
  rintro e w2 ⟨rfl, hy⟩
  replace hx := hx.trans hy
  replace bc := bc.ext hy
  clear hy
  clear c0 c1 c2
  have bd : Blk (w2.alloc (.cells #[.int .i64 x1, .int .i64 y1, .string s1] 25)) w2.heap.size #[.int .i64 x1, .int .i64 y1, .string s1] := by (repeat (first | (refine Blk.mk' ?_; (simp; done)) | apply Blk.old))
  replace bc := bc.old (o := (.cells #[.int .i64 x1, .int .i64 y1, .string s1] 25))
  replace hx := hx.trans (Ext.alloc w2 (.cells #[.int .i64 x1, .int .i64 y1, .string s1] 25))
  obtain ⟨c0, c1, c2, -, -, -⟩ := bc.c3
  go_wp2_with fail
  with_reducible refine (H1.out.2.1 _).mono ?_
  rintro e w3 ⟨rfl, hy⟩
  replace hx := hx.trans hy
  replace bc := bc.ext hy
  replace bd := bd.ext hy
  clear hy
  clear c0 c1 c2
  have be : Blk (w3.alloc (.cells #[.int .i64 x1, .int .i64 y1, .string s1] 25)) w3.heap.size #[.int .i64 x1, .int .i64 y1, .string s1] := by (repeat (first | (refine Blk.mk' ?_; (simp; done)) | apply Blk.old))
  replace bc := bc.old (o := (.cells #[.int .i64 x1, .int .i64 y1, .string s1] 25))
  replace bd := bd.old (o := (.cells #[.int .i64 x1, .int .i64 y1, .string s1] 25))
  replace hx := hx.trans (Ext.alloc w3 (.cells #[.int .i64 x1, .int .i64 y1, .string s1] 25))
  go_wp2_with fail
  with_reducible refine (spec_DrawLeastUndoing_any v xs _ (h.ext hx)).mono ?_
  rintro e w4 ⟨⟨_, rfl, ⟨L2, W2, o2, rfl, ho2⟩⟩, hy⟩
  replace hx := hx.trans hy
  replace bc := bc.ext hy
  replace bd := bd.ext hy
  replace be := be.ext hy
  clear hy
  have hl1 := fun w => impl_LeastUndoing_any L2 W2 o2 w (by unfold maxLen; omega)
  have hl2 := fun w => spec_LeastUndoing_any L2 W2 o2 w (by unfold maxLen; omega)
  have hon := fun w => impl_IsOneToOne_all L2 W2 o2 w (by unfold maxLen; omega)
  have hlo := fun h => least_one (L := L2) (W := W2) (o := o2) h
  obtain ⟨on2, hone⟩ : ∃ on, on = oneAny L2 W2 o2 := ⟨_, rfl⟩
  obtain ⟨n2, hne⟩ : ∃ n, n = leastU L2 W2 o2 := ⟨_, rfl⟩
  rw [← hone] at hon hlo
  rw [← hne] at hl1 hl2 hlo
  have H2 := Lib.hid (And.intro hl1 (And.intro hl2 (And.intro hon hlo)))
  clear hl1 hl2 hon hlo hone hne
  have bl : Blk (w4.alloc (.cells #[.int .i64 L2, .int .i64 W2, .string o2] 25)) w4.heap.size #[.int .i64 L2, .int .i64 W2, .string o2] := by (repeat (first | (refine Blk.mk' ?_; (simp; done)) | apply Blk.old))
  replace bc := bc.old (o := (.cells #[.int .i64 L2, .int .i64 W2, .string o2] 25))
  replace bd := bd.old (o := (.cells #[.int .i64 L2, .int .i64 W2, .string o2] 25))
  replace be := be.old (o := (.cells #[.int .i64 L2, .int .i64 W2, .string o2] 25))
  replace hx := hx.trans (Ext.alloc w4 (.cells #[.int .i64 L2, .int .i64 W2, .string o2] 25))
  go_wp2_with fail
  with_reducible refine (spec_DrawIsOneToOne_any v xs _ (h.ext hx)).mono ?_
  rintro e w5 ⟨_, rfl, ⟨L3, W3, o3, rfl, ho3⟩, hy⟩
  replace hx := hx.trans hy
  replace bc := bc.ext hy
  replace bd := bd.ext hy
  replace be := be.ext hy
  replace bl := bl.ext hy
  clear hy
  have hon1 := fun w => impl_IsOneToOne_all L3 W3 o3 w (by unfold maxLen; omega)
  have hon2 := fun w => spec_IsOneToOne_all L3 W3 o3 w (by unfold maxLen; omega)
  have hof := fun h w => one_facts L3 W3 o3 h w
  obtain ⟨on3, hone⟩ : ∃ on, on = oneAny L3 W3 o3 := ⟨_, rfl⟩
  rw [← hone] at hon1 hon2 hof
  have H3 := Lib.hid (And.intro hon1 (And.intro hon2 hof))
  clear hon1 hon2 hof hone
  have bo : Blk (w5.alloc (.cells #[.int .i64 L3, .int .i64 W3, .string o3] 25)) w5.heap.size #[.int .i64 L3, .int .i64 W3, .string o3] := by (repeat (first | (refine Blk.mk' ?_; (simp; done)) | apply Blk.old))
  replace bc := bc.old (o := (.cells #[.int .i64 L3, .int .i64 W3, .string o3] 25))
  replace bd := bd.old (o := (.cells #[.int .i64 L3, .int .i64 W3, .string o3] 25))
  replace be := be.old (o := (.cells #[.int .i64 L3, .int .i64 W3, .string o3] 25))
  replace bl := bl.old (o := (.cells #[.int .i64 L3, .int .i64 W3, .string o3] 25))
  replace hx := hx.trans (Ext.alloc w5 (.cells #[.int .i64 L3, .int .i64 W3, .string o3] 25))
  go_wp2_with fail
  with_reducible refine (spec_DrawIsPermutive_any v xs _ (h.ext hx)).mono ?_
  rintro e w6 ⟨_, left, rfl, ⟨L4, W4, o4, rfl, ho4⟩, hy⟩
  replace hx := hx.trans hy
  replace bc := bc.ext hy
  replace bd := bd.ext hy
  replace be := be.ext hy
  replace bl := bl.ext hy
  replace bo := bo.ext hy
  clear hy
  obtain ⟨b4, hp1, hp2, hp⟩ := perm_facts L4 W4 left o4 (by unfold maxLen; omega)
  have H4 := Lib.hid (And.intro hp1 (And.intro hp2 hp))
  clear hp1 hp2 hp
  have bp : Blk (w6.alloc (.cells #[.int .i64 L4, .int .i64 W4, .string o4] 25)) w6.heap.size #[.int .i64 L4, .int .i64 W4, .string o4] := by (repeat (first | (refine Blk.mk' ?_; (simp; done)) | apply Blk.old))
  replace bc := bc.old (o := (.cells #[.int .i64 L4, .int .i64 W4, .string o4] 25))
  replace bd := bd.old (o := (.cells #[.int .i64 L4, .int .i64 W4, .string o4] 25))
  replace be := be.old (o := (.cells #[.int .i64 L4, .int .i64 W4, .string o4] 25))
  replace bl := bl.old (o := (.cells #[.int .i64 L4, .int .i64 W4, .string o4] 25))
  replace bo := bo.old (o := (.cells #[.int .i64 L4, .int .i64 W4, .string o4] 25))
  replace hx := hx.trans (Ext.alloc w6 (.cells #[.int .i64 L4, .int .i64 W4, .string o4] 25))
  go_wp2_with fail
  with_reducible refine (spec_DrawSameOnRings_any v xs _ (h.ext hx)).mono ?_
  rintro e w7 ⟨_, _, n5, rfl, ⟨L5, W5, o5, rfl, ho5⟩, ⟨L6, W6, o6, rfl, ho6⟩, hy⟩
  replace hx := hx.trans hy
  replace bc := bc.ext hy
  replace bd := bd.ext hy
  replace be := be.ext hy
  replace bl := bl.ext hy
  replace bo := bo.ext hy
  replace bp := bp.ext hy
  clear hy
  obtain ⟨b5, hs1, hs2⟩ := same_facts L5 W5 L6 W6 n5 o5 o6 (by unfold maxLen; omega) (by unfold maxLen; omega)
  have H5 := Lib.hid (And.intro hs1 hs2)
  clear hs1 hs2
  have bx : Blk ((w7.alloc (.cells #[.int .i64 L5, .int .i64 W5, .string o5] 25)).alloc (.cells #[.int .i64 L6, .int .i64 W6, .string o6] 25)) w7.heap.size #[.int .i64 L5, .int .i64 W5, .string o5] := by (repeat (first | (refine Blk.mk' ?_; (simp; done)) | apply Blk.old))
  have by' : Blk ((w7.alloc (.cells #[.int .i64 L5, .int .i64 W5, .string o5] 25)).alloc (.cells #[.int .i64 L6, .int .i64 W6, .string o6] 25)) (w7.heap.size + 1) #[.int .i64 L6, .int .i64 W6, .string o6] := by (repeat (first | (refine Blk.mk' ?_; (simp; done)) | apply Blk.old))
  replace bc := (bc.old (o := (.cells #[.int .i64 L5, .int .i64 W5, .string o5] 25))).old (o := (.cells #[.int .i64 L6, .int .i64 W6, .string o6] 25))
  replace bd := (bd.old (o := (.cells #[.int .i64 L5, .int .i64 W5, .string o5] 25))).old (o := (.cells #[.int .i64 L6, .int .i64 W6, .string o6] 25))
  replace be := (be.old (o := (.cells #[.int .i64 L5, .int .i64 W5, .string o5] 25))).old (o := (.cells #[.int .i64 L6, .int .i64 W6, .string o6] 25))
  replace bl := (bl.old (o := (.cells #[.int .i64 L5, .int .i64 W5, .string o5] 25))).old (o := (.cells #[.int .i64 L6, .int .i64 W6, .string o6] 25))
  replace bo := (bo.old (o := (.cells #[.int .i64 L5, .int .i64 W5, .string o5] 25))).old (o := (.cells #[.int .i64 L6, .int .i64 W6, .string o6] 25))
  replace bp := (bp.old (o := (.cells #[.int .i64 L5, .int .i64 W5, .string o5] 25))).old (o := (.cells #[.int .i64 L6, .int .i64 W6, .string o6] 25))
  replace hx := (hx.trans (Ext.alloc w7 (.cells #[.int .i64 L5, .int .i64 W5, .string o5] 25))).trans (Ext.alloc _ (.cells #[.int .i64 L6, .int .i64 W6, .string o6] 25))
  obtain ⟨d0, d1, d2, -, -, -⟩ := bd.c3
  obtain ⟨e0, e1, e2, -, -, -⟩ := be.c3
  obtain ⟨l0, l1, l2, -, -, -⟩ := bl.c3
  obtain ⟨q0, q1, q2, -, -, -⟩ := bo.c3
  obtain ⟨p0, p1, p2, -, -, -⟩ := bp.c3
  obtain ⟨xa0, xa1, xa2, -, -, -⟩ := bx.c3
  obtain ⟨ya0, ya1, ya2, -, -, -⟩ := by'.c3
  go_wp2_with fail
  refine wp_region_inv (by kernel_rfl) (.known ?hy_1_v0 :: .known ?hy_1_v1 :: .known ?hy_1_v2 :: .known ?hy_1_v3 :: .known ?hy_1_v4 :: .known ?hy_1_v5 :: .known ?hy_1_v6 :: .known ?hy_1_v7 :: .known ?hy_1_v8 :: .known ?hy_1_v9 :: .known ?hy_1_v10 :: .known ?hy_1_v11 :: .known ?hy_1_v12 :: .known ?hy_1_v13 :: .known ?hy_1_v14 :: .known (.int .i64 (n2 : Nat)) :: .known ?hy_1_v16 :: .known (.int .i64 (n2 : Nat)) :: .known ?hy_1_v18 :: .known ?hy_1_v19 :: .known ?hy_1_v20 :: .known ?hy_1_v21 :: .known (.bool on3) :: .known ?hy_1_v23 :: .known (.bool on3) :: .known ?hy_1_v25 :: .known ?hy_1_v26 :: .known ?hy_1_v27 :: .known ?hy_1_v28 :: .known ?hy_1_v29 :: .known (.bool b4) :: .known ?hy_1_v31 :: .known ?hy_1_v32 :: .known (.bool b4) :: .known ?hy_1_v34 :: .known ?hy_1_v35 :: .known ?hy_1_v36 :: .known ?hy_1_v37 :: .known ?hy_1_v38 :: .known ?hy_1_v39 :: .known (.bool b5) :: .known ?hy_1_v41 :: .known ?hy_1_v42 :: .known ?hy_1_v43 :: .known (.bool b5) :: .known ?hy_1_v45 :: .known ?hy_1_v46 :: []) rfl (by kernel_rfl) ?hy_1_s ?hy_1_p
  case hy_1_s =>
    intro vs
    refine ⟨fun w' hxw hj => ?_, fun w' hxw hj => ?_, fun w' hxw hj => ?_, fun w' hxw hj => ?_, fun w' hxw hj => ?_, fun w' hxw hj => ?_, fun w' hxw hj => ?_, fun w' hxw hj => ?_, fun w' hxw hj => ?_, fun w' hxw hj => ?_, fun w' hxw hj => ?_, fun w' hxw hj => ?_, fun w' hxw hj => ?_, fun w' hxw hj => ?_, fun w' hxw hj => ?_, fun w' hxw hj => ?_, fun w' hxw hj => ?_, fun w' hxw hj => ?_, fun w' hxw hj => ?_, fun w' hxw hj => ?_, fun w' hxw hj => ?_, fun w' hxw hj => ?_, fun w' hxw hj => ?_, fun w' hxw hj => ?_, fun w' hxw hj => ?_, fun w' hxw hj => ?_, fun w' hxw hj => ?_, fun w' hxw hj => ?_, fun w' hxw hj => ?_, fun w' hxw hj => ?_, fun w' hxw hj => ?_, fun w' hxw hj => ?_, fun w' hxw hj => ?_, fun w' hxw hj => ?_, fun w' hxw hj => ?_, fun w' hxw hj => ?_, fun w' hxw hj => ?_, fun w' hxw hj => ?_, fun w' hxw hj => ?_, fun w' hxw hj => ?_, fun w' hxw hj => ?_, fun w' hxw hj => ?_, fun w' hxw hj => ?_, fun w' hxw hj => ?_, fun w' hxw hj => ?_, fun w' hxw hj => ?_, fun w' hxw hj => ?_, trivial⟩
    · clear hj
      go_simp
      try go_bits
      first | rfl | (rw [if_pos (by omega), if_pos (by omega)]; go_simp; rfl) | (rw [if_pos (by omega)]; go_simp; rfl) | skip
    · clear hj
      go_simp
      try go_bits
      first | rfl | (rw [if_pos (by omega), if_pos (by omega)]; go_simp; rfl) | (rw [if_pos (by omega)]; go_simp; rfl) | skip
    · clear hj
      go_simp
      try go_bits
      first | rfl | (rw [if_pos (by omega), if_pos (by omega)]; go_simp; rfl) | (rw [if_pos (by omega)]; go_simp; rfl) | skip
    · clear hj
      go_simp
      try go_bits
      first | rfl | (rw [if_pos (by omega), if_pos (by omega)]; go_simp; rfl) | (rw [if_pos (by omega)]; go_simp; rfl) | skip
    · have d0 := Ext.cell_some hxw d0
      have d1 := Ext.cell_some hxw d1
      have d2 := Ext.cell_some hxw d2
      clear hj
      go_simp
      try go_bits
      first | rfl | (rw [if_pos (by omega), if_pos (by omega)]; go_simp; rfl) | (rw [if_pos (by omega)]; go_simp; rfl) | skip
    · have e0 := Ext.cell_some hxw e0
      have e1 := Ext.cell_some hxw e1
      have e2 := Ext.cell_some hxw e2
      clear hj
      go_simp
      try go_bits
      first | rfl | (rw [if_pos (by omega), if_pos (by omega)]; go_simp; rfl) | (rw [if_pos (by omega)]; go_simp; rfl) | skip
    · clear hj
      go_simp
      try go_bits
      first | rfl | (rw [if_pos (by omega), if_pos (by omega)]; go_simp; rfl) | (rw [if_pos (by omega)]; go_simp; rfl) | skip
    · clear hj
      go_simp
      try go_bits
      first | rfl | (rw [if_pos (by omega), if_pos (by omega)]; go_simp; rfl) | (rw [if_pos (by omega)]; go_simp; rfl) | skip
    · clear hj
      go_simp
      try go_bits
      first | rfl | (rw [if_pos (by omega), if_pos (by omega)]; go_simp; rfl) | (rw [if_pos (by omega)]; go_simp; rfl) | skip
    · clear hj
      go_simp
      try go_bits
      first | rfl | (rw [if_pos (by omega), if_pos (by omega)]; go_simp; rfl) | (rw [if_pos (by omega)]; go_simp; rfl) | skip
    · clear hj
      go_simp
      try go_bits
      first | rfl | (rw [if_pos (by omega), if_pos (by omega)]; go_simp; rfl) | (rw [if_pos (by omega)]; go_simp; rfl) | skip
    · clear hj
      go_simp
      try go_bits
      first | rfl | (rw [if_pos (by omega), if_pos (by omega)]; go_simp; rfl) | (rw [if_pos (by omega)]; go_simp; rfl) | skip
    · clear hj
      go_simp
      try go_bits
      first | rfl | (rw [if_pos (by omega), if_pos (by omega)]; go_simp; rfl) | (rw [if_pos (by omega)]; go_simp; rfl) | skip
    · clear hj
      go_simp
      try go_bits
      first | rfl | (rw [if_pos (by omega), if_pos (by omega)]; go_simp; rfl) | (rw [if_pos (by omega)]; go_simp; rfl) | skip
    · have l0 := Ext.cell_some hxw l0
      have l1 := Ext.cell_some hxw l1
      have l2 := Ext.cell_some hxw l2
      clear hj
      go_simp
      try go_bits
      first | rfl | (rw [if_pos (by omega), if_pos (by omega)]; go_simp; rfl) | (rw [if_pos (by omega)]; go_simp; rfl) | skip
    · clear hj
      go_simp
      try go_bits
      exact H2.out.1 _
    · have l0 := Ext.cell_some hxw l0
      have l1 := Ext.cell_some hxw l1
      have l2 := Ext.cell_some hxw l2
      clear hj
      go_simp
      try go_bits
      first | rfl | (rw [if_pos (by omega), if_pos (by omega)]; go_simp; rfl) | (rw [if_pos (by omega)]; go_simp; rfl) | skip
    · clear hj
      go_simp
      try go_bits
      exact H2.out.2.1 _
    · clear hj
      go_simp
      try go_bits
      first | rfl | (rw [if_pos (by omega), if_pos (by omega)]; go_simp; rfl) | (rw [if_pos (by omega)]; go_simp; rfl) | skip
    · clear hj
      go_simp
      try go_bits
      first | rfl | (rw [if_pos (by omega), if_pos (by omega)]; go_simp; rfl) | (rw [if_pos (by omega)]; go_simp; rfl) | skip
    · clear hj
      go_simp
      try go_bits
      first | rfl | (rw [if_pos (by omega), if_pos (by omega)]; go_simp; rfl) | (rw [if_pos (by omega)]; go_simp; rfl) | skip
    · have q0 := Ext.cell_some hxw q0
      have q1 := Ext.cell_some hxw q1
      have q2 := Ext.cell_some hxw q2
      clear hj
      go_simp
      try go_bits
      first | rfl | (rw [if_pos (by omega), if_pos (by omega)]; go_simp; rfl) | (rw [if_pos (by omega)]; go_simp; rfl) | skip
    · clear hj
      go_simp
      try go_bits
      exact H3.out.1 _
    · have q0 := Ext.cell_some hxw q0
      have q1 := Ext.cell_some hxw q1
      have q2 := Ext.cell_some hxw q2
      clear hj
      go_simp
      try go_bits
      first | rfl | (rw [if_pos (by omega), if_pos (by omega)]; go_simp; rfl) | (rw [if_pos (by omega)]; go_simp; rfl) | skip
    · clear hj
      go_simp
      try go_bits
      exact H3.out.2.1 _
    · clear hj
      go_simp
      try go_bits
      first | rfl | (rw [if_pos (by omega), if_pos (by omega)]; go_simp; rfl) | (rw [if_pos (by omega)]; go_simp; rfl) | skip
    · clear hj
      go_simp
      try go_bits
      first | rfl | (rw [if_pos (by omega), if_pos (by omega)]; go_simp; rfl) | (rw [if_pos (by omega)]; go_simp; rfl) | skip
    · clear hj
      go_simp
      try go_bits
      first | rfl | (rw [if_pos (by omega), if_pos (by omega)]; go_simp; rfl) | (rw [if_pos (by omega)]; go_simp; rfl) | skip
    · have p0 := Ext.cell_some hxw p0
      have p1 := Ext.cell_some hxw p1
      have p2 := Ext.cell_some hxw p2
      clear hj
      go_simp
      try go_bits
      first | rfl | (rw [if_pos (by omega), if_pos (by omega)]; go_simp; rfl) | (rw [if_pos (by omega)]; go_simp; rfl) | skip
    · clear hj
      go_simp
      try go_bits
      first | rfl | (rw [if_pos (by omega), if_pos (by omega)]; go_simp; rfl) | (rw [if_pos (by omega)]; go_simp; rfl) | skip
    · clear hj
      go_simp
      try go_bits
      exact H4.out.1 _
    · have p0 := Ext.cell_some hxw p0
      have p1 := Ext.cell_some hxw p1
      have p2 := Ext.cell_some hxw p2
      clear hj
      go_simp
      try go_bits
      first | rfl | (rw [if_pos (by omega), if_pos (by omega)]; go_simp; rfl) | (rw [if_pos (by omega)]; go_simp; rfl) | skip
    · clear hj
      go_simp
      try go_bits
      first | rfl | (rw [if_pos (by omega), if_pos (by omega)]; go_simp; rfl) | (rw [if_pos (by omega)]; go_simp; rfl) | skip
    · clear hj
      go_simp
      try go_bits
      exact H4.out.2.1 _
    · clear hj
      go_simp
      try go_bits
      first | rfl | (rw [if_pos (by omega), if_pos (by omega)]; go_simp; rfl) | (rw [if_pos (by omega)]; go_simp; rfl) | skip
    · clear hj
      go_simp
      try go_bits
      first | rfl | (rw [if_pos (by omega), if_pos (by omega)]; go_simp; rfl) | (rw [if_pos (by omega)]; go_simp; rfl) | skip
    · clear hj
      go_simp
      try go_bits
      first | rfl | (rw [if_pos (by omega), if_pos (by omega)]; go_simp; rfl) | (rw [if_pos (by omega)]; go_simp; rfl) | skip
    · have xa0 := Ext.cell_some hxw xa0
      have xa1 := Ext.cell_some hxw xa1
      have xa2 := Ext.cell_some hxw xa2
      clear hj
      go_simp
      try go_bits
      first | rfl | (rw [if_pos (by omega), if_pos (by omega)]; go_simp; rfl) | (rw [if_pos (by omega)]; go_simp; rfl) | skip
    · have ya0 := Ext.cell_some hxw ya0
      have ya1 := Ext.cell_some hxw ya1
      have ya2 := Ext.cell_some hxw ya2
      clear hj
      go_simp
      try go_bits
      first | rfl | (rw [if_pos (by omega), if_pos (by omega)]; go_simp; rfl) | (rw [if_pos (by omega)]; go_simp; rfl) | skip
    · clear hj
      go_simp
      try go_bits
      first | rfl | (rw [if_pos (by omega), if_pos (by omega)]; go_simp; rfl) | (rw [if_pos (by omega)]; go_simp; rfl) | skip
    · clear hj
      go_simp
      try go_bits
      exact H5.out.1 _
    · have xa0 := Ext.cell_some hxw xa0
      have xa1 := Ext.cell_some hxw xa1
      have xa2 := Ext.cell_some hxw xa2
      clear hj
      go_simp
      try go_bits
      first | rfl | (rw [if_pos (by omega), if_pos (by omega)]; go_simp; rfl) | (rw [if_pos (by omega)]; go_simp; rfl) | skip
    · have ya0 := Ext.cell_some hxw ya0
      have ya1 := Ext.cell_some hxw ya1
      have ya2 := Ext.cell_some hxw ya2
      clear hj
      go_simp
      try go_bits
      first | rfl | (rw [if_pos (by omega), if_pos (by omega)]; go_simp; rfl) | (rw [if_pos (by omega)]; go_simp; rfl) | skip
    · clear hj
      go_simp
      try go_bits
      first | rfl | (rw [if_pos (by omega), if_pos (by omega)]; go_simp; rfl) | (rw [if_pos (by omega)]; go_simp; rfl) | skip
    · clear hj
      go_simp
      try go_bits
      exact H5.out.2 _
    · clear hj
      go_simp
      try go_bits
      first | rfl | (rw [if_pos (by omega), if_pos (by omega)]; go_simp; rfl) | (rw [if_pos (by omega)]; go_simp; rfl) | skip
    · clear hj
      go_simp
      try go_bits
      first | rfl | (rw [if_pos (by omega), if_pos (by omega)]; go_simp; rfl) | (rw [if_pos (by omega)]; go_simp; rfl) | skip
  case' hy_1_p =>
    intro vs w13 hy hk
    clear hk
    replace bc := Blk.ext bc hy
    replace bd := Blk.ext bd hy
    replace bl := Blk.ext bl hy
    replace bo := Blk.ext bo hy
    replace bp := Blk.ext bp hy
    replace hx := Ext.trans hx hy
    go_simp
  as_aux_lemma =>
  clear hy d0 d1 d2 e0 e1 e2 l0 l1 l2 q0 q1 q2 p0 p1 p2 xa0 xa1 xa2 ya0 ya1 ya2 be bx by' H5
  obtain ⟨l0, l1, l2, -, -, -⟩ := bl.c3
  obtain ⟨q0, q1, q2, -, -, -⟩ := bo.c3
  obtain ⟨p0, p1, p2, -, -, -⟩ := bp.c3
  go_upto_region 12 with fail
  go_cut [133] (fun s133 wx => s133 = .bool false ∧ Ext w13 wx)
  case first =>
    as_aux_lemma =>
    go_wp2_with fail
    with_reducible refine (H3.out.1 _).mono ?_
    rintro e wa ⟨rfl, hya⟩
    replace l0 := hya.cell_some l0
    replace l1 := hya.cell_some l1
    replace l2 := hya.cell_some l2
    replace q0 := hya.cell_some q0
    replace q1 := hya.cell_some q1
    replace q2 := hya.cell_some q2
    replace p0 := hya.cell_some p0
    replace p1 := hya.cell_some p1
    replace p2 := hya.cell_some p2
    cases on3
    · skip
      go_wp2_with fail
      with_reducible refine (H4.out.1 _).mono ?_
      rintro e wb ⟨rfl, hyb⟩
      replace hya := hya.trans hyb
      replace l0 := hyb.cell_some l0
      replace l1 := hyb.cell_some l1
      replace l2 := hyb.cell_some l2
      replace p0 := hyb.cell_some p0
      replace p1 := hyb.cell_some p1
      replace p2 := hyb.cell_some p2
      clear hyb
      cases b4
      · skip
        go_wp2_with fail
        with_reducible refine (H2.out.1 _).mono ?_
        rintro e wd ⟨rfl, hyb⟩
        replace hya := hya.trans hyb
        replace l0 := hyb.cell_some l0
        replace l1 := hyb.cell_some l1
        replace l2 := hyb.cell_some l2
        clear hyb
        by_cases hn : 0 < n2
        · obtain rfl := H2.out.2.2.2 hn
          go_wp2_with fail
          with_reducible refine (H2.out.2.2.1 _).mono ?_
          rintro e we ⟨rfl, hyb⟩
          go_wp2
          go_meet
          exact ⟨rfl, hya.trans hyb⟩
        · obtain rfl : n2 = 0 := by omega
          go_wp2
          go_meet
          exact ⟨rfl, hya⟩
      · go_wp2_with fail
        with_reducible refine (H4.out.2.2 (by first | rfl | trivial) _).mono ?_
        rintro e wc ⟨rfl, hyb⟩
        replace hya := hya.trans hyb
        replace l0 := hyb.cell_some l0
        replace l1 := hyb.cell_some l1
        replace l2 := hyb.cell_some l2
        clear hyb
        go_wp2_with fail
        with_reducible refine (H2.out.1 _).mono ?_
        rintro e wd ⟨rfl, hyb⟩
        replace hya := hya.trans hyb
        replace l0 := hyb.cell_some l0
        replace l1 := hyb.cell_some l1
        replace l2 := hyb.cell_some l2
        clear hyb
        by_cases hn : 0 < n2
        · obtain rfl := H2.out.2.2.2 hn
          go_wp2_with fail
          with_reducible refine (H2.out.2.2.1 _).mono ?_
          rintro e we ⟨rfl, hyb⟩
          go_wp2
          go_meet
          exact ⟨rfl, hya.trans hyb⟩
        · obtain rfl : n2 = 0 := by omega
          go_wp2
          go_meet
          exact ⟨rfl, hya⟩
    · go_wp2_with fail
      with_reducible refine (H3.out.2.2 (by first | rfl | trivial) _).mono ?_
      rintro e wa' ⟨rfl, hyb⟩
      replace hya := hya.trans hyb
      replace l0 := hyb.cell_some l0
      replace l1 := hyb.cell_some l1
      replace l2 := hyb.cell_some l2
      replace p0 := hyb.cell_some p0
      replace p1 := hyb.cell_some p1
      replace p2 := hyb.cell_some p2
      clear hyb
      go_wp2_with fail
      with_reducible refine (H4.out.1 _).mono ?_
      rintro e wb ⟨rfl, hyb⟩
      replace hya := hya.trans hyb
      replace l0 := hyb.cell_some l0
      replace l1 := hyb.cell_some l1
      replace l2 := hyb.cell_some l2
      replace p0 := hyb.cell_some p0
      replace p1 := hyb.cell_some p1
      replace p2 := hyb.cell_some p2
      clear hyb
      cases b4
      · skip
        go_wp2_with fail
        with_reducible refine (H2.out.1 _).mono ?_
        rintro e wd ⟨rfl, hyb⟩
        replace hya := hya.trans hyb
        replace l0 := hyb.cell_some l0
        replace l1 := hyb.cell_some l1
        replace l2 := hyb.cell_some l2
        clear hyb
        by_cases hn : 0 < n2
        · obtain rfl := H2.out.2.2.2 hn
          go_wp2_with fail
          with_reducible refine (H2.out.2.2.1 _).mono ?_
          rintro e we ⟨rfl, hyb⟩
          go_wp2
          go_meet
          exact ⟨rfl, hya.trans hyb⟩
        · obtain rfl : n2 = 0 := by omega
          go_wp2
          go_meet
          exact ⟨rfl, hya⟩
      · go_wp2_with fail
        with_reducible refine (H4.out.2.2 (by first | rfl | trivial) _).mono ?_
        rintro e wc ⟨rfl, hyb⟩
        replace hya := hya.trans hyb
        replace l0 := hyb.cell_some l0
        replace l1 := hyb.cell_some l1
        replace l2 := hyb.cell_some l2
        clear hyb
        go_wp2_with fail
        with_reducible refine (H2.out.1 _).mono ?_
        rintro e wd ⟨rfl, hyb⟩
        replace hya := hya.trans hyb
        replace l0 := hyb.cell_some l0
        replace l1 := hyb.cell_some l1
        replace l2 := hyb.cell_some l2
        clear hyb
        by_cases hn : 0 < n2
        · obtain rfl := H2.out.2.2.2 hn
          go_wp2_with fail
          with_reducible refine (H2.out.2.2.1 _).mono ?_
          rintro e we ⟨rfl, hyb⟩
          go_wp2
          go_meet
          exact ⟨rfl, hya.trans hyb⟩
        · obtain rfl : n2 = 0 := by omega
          go_wp2
          go_meet
          exact ⟨rfl, hya⟩
  case rest =>
  as_aux_lemma =>
  obtain ⟨rfl, hy⟩ := hcut
  clear l0 l1 l2 q0 q1 q2 p0 p1 p2 bl bo bp H2 H3 H4
  replace hx := hx.trans hy
  replace bc := bc.ext hy
  replace bd := bd.ext hy
  clear hy
  cases b1
  · go_wp2
    go_ret
    exact ⟨rfl, hx⟩
  obtain ⟨hon, K, n, k, a, rfl, rfl, rfl, rfl, rfl, rfl, hU⟩ := H1.out.2.2.1 (by first | rfl | trivial)
  subst hon
  have hk2 := hU.k2
  have hk3 := hU.k3
  have hn1 := hU.n1
  have hn4 := hU.n4
  have hkk1 := hU.k1
  have hkk4 := hU.k4
  have hsm := hU.small
  have hat := hU.at'
  have HU := Lib.hid hU
  clear hU
  obtain ⟨q, hq⟩ : ∃ q, q = n + k - 1 := ⟨_, rfl⟩
  have hqi : (n : Int) + (k : Int) - 1 = (q : Int) := by omega
  have hwo := fun w => spec_WordsOf_code K q w hk2 hk3 (fun h => by omega) (fun h => by have := hsm h; omega)
  have HW := Lib.hid (And.intro hwo hq)
  have haq : a < q := by omega
  clear hwo hq hsm hat
  obtain ⟨c0, c1, c2, -, -, -⟩ := bc.c3
  go_wp2_with fail
  with_reducible refine (H1.out.2.2.2 _).mono ?_
  rintro e wf ⟨rfl, hy⟩
  replace hx := hx.trans hy
  replace bc := bc.ext hy
  replace bd := bd.ext hy
  clear hy c0 c1 c2
  obtain ⟨c0, c1, c2, -, -, -⟩ := bc.c3
  go_wp2_with fail
  (try rw [hqi])
  with_reducible refine (HW.out.1 _).mono ?_
  rintro e wg ⟨z, rfl, hz, hy⟩
  replace hx := hx.trans hy
  replace bc := bc.ext hy
  replace bd := bd.ext hy
  clear hy c0 c1 c2
  have hF := Own.readsW hz
  clear hz
  obtain ⟨pz, cz, rfl⟩ := hF.slice
  obtain ⟨N, hN⟩ : ∃ N, N = (wordsL K q).length := ⟨_, rfl⟩
  rw [← hN] at hF ⊢
  obtain ⟨-, hNc, hcm⟩ := hF.len
  have HF := Lib.hid (And.intro hF (And.intro bc (And.intro bd hN)))
  clear hF bc bd hN
  go_wp2
  go_loopw [19, 20, 21, 22, 23] (fun i s20 s21 s22 s23 wr => ∃ j : Nat, i = .int .i64 j ∧ j ≤ N ∧ Ext wg wr) (fun i _ _ _ _ _ => N - (intOf i).toNat)
  case atStart => exact ⟨0, rfl, by omega, Ext.refl _⟩
  case round =>
    obtain ⟨j, rfl, hj, hxr⟩ := hrel
    by_cases hlt : j < N
    · have hjl : j < (wordsL K q).length := by rw [← HF.out.2.2.2]; exact hlt
      obtain ⟨g, p, rfl, hc⟩ := (ReadsW.ext HF.out.1 hxr).at j hjl
      obtain ⟨u, hu⟩ : ∃ u, u = (wordsL K q).getD j [] := ⟨_, rfl⟩
      rw [← hu] at hc
      have hmem : u.length = q ∧ areLet K u = true := mem_wordsL (by rw [hu, List.getD_eq_getElem?_getD, List.getElem?_eq_getElem hjl]; exact List.getElem_mem _) (by omega) hk3
      have hA1 := HU.out.apply1 u hmem.2 (by rw [hmem.1]; exact HW.out.2)
      have hA2 := HU.out.apply2 u hmem.2 (by rw [hmem.1]; exact HW.out.2)
      obtain ⟨A, hA⟩ : ∃ A, A = mkS (applyL K n o1 u) := ⟨_, rfl⟩
      obtain ⟨U, hUe⟩ : ∃ U, U = mkS u := ⟨_, rfl⟩
      obtain ⟨V, hV⟩ : ∃ V, V = mkS [u.getD a 0] := ⟨_, rfl⟩
      have hsl : U.extract a (a + 1) = V := by rw [hUe, hV]; exact mkS_slice u a (by omega)
      have hUs : (a : Int) + 1 ≤ (U.size : Int) := by rw [hUe, mkS_size]; omega
      rw [← hA] at hA1 hA2
      rw [← hUe] at hA1 hc
      rw [← hV] at hA2
      have HA := Lib.hid (And.intro hA1 hA2)
      obtain ⟨c0, c1, c2, -, -, -⟩ := (HF.out.2.1.ext hxr).c3
      obtain ⟨d0, d1, d2, -, -, -⟩ := (HF.out.2.2.1.ext hxr).c3
      clear hA1 hA2 hA hUe hV hu hmem hjl
      go_upto_region 22 with fail
      go_cut [20, 21] from 153 to 161 (fun s20 s21 wx => s20 = .string A ∧ s21 = .bool true ∧ Ext wr wx)
      case first =>
        go_region_with (go_at_call 23; refine (HA.out.1 _).mono ?_; rintro e w' ⟨rfl, hyh⟩)
        all_goals (go_wp2_with fail; go_meet; exact ⟨rfl, rfl, (Ext.drew _).trans hyh⟩)
      case rest =>
      obtain ⟨rfl, rfl, hyh⟩ := hcut
      replace c0 := hyh.cell_some c0
      replace c1 := hyh.cell_some c1
      replace c2 := hyh.cell_some c2
      replace d0 := hyh.cell_some d0
      replace d1 := hyh.cell_some d1
      replace d2 := hyh.cell_some d2
      replace hc := hyh.cell_some hc
      replace hxr := hxr.trans hyh
      clear hyh
      go_wp2_with fail
      with_reducible refine (HA.out.2 _).mono ?_
      rintro e wi ⟨rfl, hyi⟩
      replace hc := hyi.cell_some hc
      replace hxr := hxr.trans hyi
      clear hyi c0 c1 c2 d0 d1 d2
      go_wp2
      go_round
      case rel => exact ⟨j + 1, by go_num, by omega, hxr⟩
      case measure => simp [intOf]; omega
    · go_wp2
      go_ret
      exact ⟨rfl, hx.trans hxr⟩

set_option maxRecDepth 100000 in
set_option linter.unusedVariables false in
theorem fnUndone_lifted (os : Os) (started : os.Started) (H : Type) (enc : TypeId × Value → H) :
    ReturnsInHanded {} Try.checked os 4 .any (Rows.fnUndoneSpec.pre6 enc Try.prog Try.f4 Rows.fnUndoneRow.domain false) (Rows.fnUndoneSpec.post enc Try.prog Try.f4 false true false false) := by
  refine returnsInHanded_of_change (C := Try.checked) own started (by kernel_rfl) Try.func4
    (ChangeSpec.witness6 (enc := enc) (C := Try.checked) false ⟨#[], #[.slice none 0 0], []⟩ 8 (by kernel_rfl) (by kernel_rfl) (by kernel_rfl) (by kernel_rfl)) ?_
  intro W base args ds gs before hval0 hW hcnd _
  have hval : ∀ (j : Nat) t v, Try.f4.params[j]? = some t → args[j]? = some v → Value.okWide Try.prog W .any base t v := hval0
  have hW' := hW
  obtain ⟨p, q, hA0, hV, rfl, hfz, hnd⟩ := hW
  have hA : DataW.TrodAll enc Try.prog W 0 (fun _ => true) true Try.f4.params.toList args.toList ds p := hA0
  rw [Try.params4] at hA hval
  obtain ⟨v0, vs0, d0, ds0, p0, q0, hargs, rfl, rfl, h0, r0⟩ := trodAll_cons hA
  obtain ⟨rfl, rfl, rfl⟩ := trodAll_nil r0
  obtain rfl : args = #[v0] := by cases args; simp_all
  obtain ⟨rfl, rfl⟩ := trodVars_none hV
  have k0 := h0
  have lt0 : ∀ x ∈ p0, x.block < W.heap.size := by obtain ⟨m, hm⟩ := k0; exact DataW.trod_lt m _ _ _ hm
  obtain ⟨xs0, rd0⟩ := bytes_of_trod Try.underlying22 Try.underlying5 (by kernel_rfl) (hval 0 22 v0 rfl rfl) h0
  clear hA0 hval0
  refine (fnUndone_any v0 xs0 W rd0).mono fun e W' ⟨he, bel⟩ => ?_
  subst he
  exact ⟨_, rfl, _, _, _, [], _, [], hW', trodAll_mk1 (shut_bool Try.underlying4 _), (trodAll_cons_mk (Below.trod laidOut (by kernel_rfl) (of_decide_eq_true (by kernel_rfl)) k0 bel lt0) trodAll_mk0), rfl, Below.frame bel _, fun h => by cases h⟩

theorem fnUndone_holds : Rows.FnUndoneSaid :=
  OpenClaim.holds_of_wide 4 Try.f4 rfl rfl rfl rfl rfl rfl rfl ⟨rfl, rfl, rfl, rfl, rfl⟩ rfl rfl rfl rfl rfl (by kernel_rfl) Try.func4 (by show joinedFacts Try.prog 4 Try.f4 Rows.fnUndoneSpec Rows.fnUndoneRow = true; unfold joinedFacts; rw [mayEnter_it, liftsFinal_it, make_it]; kernel_rfl)
    (of_decide_eq_true (by kernel_rfl)) (by unfold Func.isWrapper; first | (rw [if_pos (by decide +kernel)]; kernel_rfl) | (rw [if_neg (by decide +kernel)]; exact ⟨rfl, rfl⟩))
    (fun os started H enc _ => fnUndone_lifted os started H enc)
end Go.Proofs.Ytfkdpeifnfpldaa

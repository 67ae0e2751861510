/- For every code the law FnOnto returns true. No conditions. -/
import Derived.Test.YtfkdpeifnfpldaaOntoFacts
import Derived.Test.YtfkdpeifnfpldaaDrwD
import Derived.Test.YtfkdpeifnfpldaaOpen
import Derived.Deep.DeepCutAuto
namespace Go.Proofs.Ytfkdpeifnfpldaa
open Go.ChangeShapes Go.WideShapes Go.ChangeAt Go.RowKit Go.Cm
open Go.ChangeMaps (open_string shut_string)

theorem laws_big_any (v : Value) (xs : List UInt8) (w : World) (h : ReadsB w v xs) :
    Calls Try.prog 5 #[v] w fun e w' => ∃ b : Bool, e = .returned (.bool b) ∧ w = w' := by
  obtain ⟨a, cap, rfl, hl, hm⟩ := h
  have hm := hm.1
  unfold maxLen at hm
  have hn : (xs.map fun c => Value.int .u8 (c.toNat : Int)).length ≤ 9223372036854775807 := by omega
  obtain ⟨n, hn'⟩ : ∃ n, n = (xs.map fun c => Value.int .u8 (c.toNat : Int)).length := ⟨_, rfl⟩
  rw [← hn'] at hn ⊢
  clear hl hn'
  go_enter Try.func5, Try.ntmps5
  go_wp2
  go_ret
  exact ⟨_, rfl, rfl⟩

set_option maxRecDepth 100000 in
set_option maxHeartbeats 4000000 in
theorem fnOnto_any (v : Value) (xs : List UInt8) (w : World) (h : ReadsB w v xs) :
    Calls Try.prog 3 #[v] w fun e w' => e = .returned (.bool true) ∧ Ext w w' := by
  have hx := Ext.refl w
  go_enter Try.func3, Try.ntmps3
  go_wp2_with fail
  with_reducible refine (laws_big_any v xs _ h).mono ?_
  rintro e w1 ⟨b, rfl, rfl⟩
  cases b
  rotate_left
  · go_wp2
    go_ret
    exact ⟨rfl, hx⟩
  go_wp2_with fail
  with_reducible refine (spec_DrawIsOnto_any v xs _ h).mono ?_
  rintro e w1 ⟨c, rfl, ⟨L1, W1, o1, rfl, ho1⟩, hy⟩
  replace hx := hx.trans hy
  clear hy
  obtain ⟨x1, r1, hfo1, hfo2, hfo⟩ := orphan_facts L1 W1 o1 (by unfold maxLen; omega)
  have hon := fun w => impl_IsOnto_all L1 W1 o1 w (by unfold maxLen; omega)
  have hon2 := fun w => spec_IsOnto_all L1 W1 o1 w (by unfold maxLen; omega)
  obtain ⟨on, hone⟩ : ∃ on, on = ontoB L1 W1 o1 := ⟨_, rfl⟩
  rw [← hone] at hon hon2 hfo
  have H1 := Lib.hid (And.intro hon (And.intro hon2 (And.intro hfo1 (And.intro hfo2 hfo))))
  clear hon hon2 hfo1 hfo2 hfo hone
  have bc : Blk (w1.alloc (.cells #[.int .i64 L1, .int .i64 W1, .string o1] 25)) w1.heap.size #[.int .i64 L1, .int .i64 W1, .string o1] := by (repeat (first | (refine Blk.mk' ?_; (simp; done)) | apply Blk.old))
  replace hx := hx.trans (Ext.alloc w1 (.cells #[.int .i64 L1, .int .i64 W1, .string o1] 25))
  obtain ⟨c0, c1, c2, -, -, -⟩ := bc.c3
  go_wp2_with fail
  with_reducible refine (H1.out.1 _).mono ?_
  rintro e w2 ⟨rfl, hy⟩
  replace hx := hx.trans hy
  replace bc := bc.ext hy
  clear hy
  clear c0 c1 c2
  obtain ⟨c0, c1, c2, -, -, -⟩ := bc.c3
  go_wp2_with fail
  with_reducible refine (H1.out.2.2.1 _).mono ?_
  rintro e w3 ⟨rfl, hy⟩
  replace hx := hx.trans hy
  replace bc := bc.ext hy
  clear hy
  clear c0 c1 c2
  obtain ⟨c0, c1, c2, -, -, -⟩ := bc.c3
  go_wp2_with fail
  with_reducible refine (H1.out.2.2.2.1 _).mono ?_
  rintro e w4 ⟨rfl, hy⟩
  replace hx := hx.trans hy
  replace bc := bc.ext hy
  clear hy
  clear c0 c1 c2
  go_wp2_with fail
  with_reducible refine (spec_DrawCountSources_any v xs _ (h.ext hx)).mono ?_
  rintro e w5 ⟨_, u2, rfl, ⟨L2, W2, o2, rfl, ho2⟩, hu2, hy⟩
  replace hx := hx.trans hy
  replace bc := bc.ext hy
  clear hy
  obtain ⟨x2, r2, n2, -, -, hcs1, hcs2, -, -⟩ := source_facts L2 W2 o2 u2 (by unfold maxLen; omega) (by unfold maxLen; omega)
  have H2 := Lib.hid (And.intro hcs1 hcs2)
  clear hcs1 hcs2
  have be : Blk (w5.alloc (.cells #[.int .i64 L2, .int .i64 W2, .string o2] 25)) w5.heap.size #[.int .i64 L2, .int .i64 W2, .string o2] := by (repeat (first | (refine Blk.mk' ?_; (simp; done)) | apply Blk.old))
  replace bc := bc.old (o := (.cells #[.int .i64 L2, .int .i64 W2, .string o2] 25))
  replace hx := hx.trans (Ext.alloc w5 (.cells #[.int .i64 L2, .int .i64 W2, .string o2] 25))
  go_wp2_with fail
  with_reducible refine (spec_DrawFirstSource_any v xs _ (h.ext hx)).mono ?_
  rintro e w6 ⟨_, g, rfl, ⟨L3, W3, o3, rfl, ho3⟩, hg, hy⟩
  replace hx := hx.trans hy
  replace bc := bc.ext hy
  replace be := be.ext hy
  clear hy
  obtain ⟨x3, r3, n3, hfs1, hfs2, hcn, -, hrn, hap⟩ := source_facts L3 W3 o3 g (by unfold maxLen; omega) (by unfold maxLen; omega)
  have H3 := Lib.hid (And.intro hfs1 (And.intro hfs2 (And.intro hcn (And.intro hrn hap))))
  clear hfs1 hfs2 hcn hrn hap
  have bf : Blk (w6.alloc (.cells #[.int .i64 L3, .int .i64 W3, .string o3] 25)) w6.heap.size #[.int .i64 L3, .int .i64 W3, .string o3] := by (repeat (first | (refine Blk.mk' ?_; (simp; done)) | apply Blk.old))
  replace bc := bc.old (o := (.cells #[.int .i64 L3, .int .i64 W3, .string o3] 25))
  replace be := be.old (o := (.cells #[.int .i64 L3, .int .i64 W3, .string o3] 25))
  replace hx := hx.trans (Ext.alloc w6 (.cells #[.int .i64 L3, .int .i64 W3, .string o3] 25))
  obtain ⟨f0, f1, f2, -, -, -⟩ := bf.c3
  go_wp2_with fail
  with_reducible refine (H3.out.1 _).mono ?_
  rintro e w7 ⟨rfl, hy⟩
  replace hx := hx.trans hy
  replace bc := bc.ext hy
  replace be := be.ext hy
  replace bf := bf.ext hy
  clear hy
  clear f0 f1 f2
  obtain ⟨f0, f1, f2, -, -, -⟩ := bf.c3
  go_wp2_with fail
  with_reducible refine (H3.out.2.1 _).mono ?_
  rintro e w8 ⟨rfl, hy⟩
  replace hx := hx.trans hy
  replace bc := bc.ext hy
  replace be := be.ext hy
  replace bf := bf.ext hy
  clear hy
  clear f0 f1 f2
  go_wp2_with fail
  with_reducible refine (spec_DrawIsBalanced_any v xs _ (h.ext hx)).mono ?_
  rintro e w9 ⟨_, n4, rfl, ⟨L4, W4, o4, rfl, ho4⟩, hy⟩
  replace hx := hx.trans hy
  replace bc := bc.ext hy
  replace be := be.ext hy
  replace bf := bf.ext hy
  clear hy
  obtain ⟨b4, hb1, hb2, hb⟩ := bal_facts L4 W4 n4 o4 (by unfold maxLen; omega)
  have hon := fun w => impl_IsOnto_all L4 W4 o4 w (by unfold maxLen; omega)
  have hok := fun w => spec_IsCode_any L4 W4 o4 w (by unfold maxLen; omega)
  obtain ⟨on4, hone⟩ : ∃ on, on = ontoB L4 W4 o4 := ⟨_, rfl⟩
  obtain ⟨ok4, hoke⟩ : ∃ ok, ok = codeOk L4 W4 o4 := ⟨_, rfl⟩
  rw [← hone] at hb hon
  rw [← hoke] at hok
  have H4 := Lib.hid (And.intro hb1 (And.intro hb2 (And.intro hb (And.intro hon hok))))
  clear hb1 hb2 hb hon hok hone hoke
  have bd : Blk (w9.alloc (.cells #[.int .i64 L4, .int .i64 W4, .string o4] 25)) w9.heap.size #[.int .i64 L4, .int .i64 W4, .string o4] := by (repeat (first | (refine Blk.mk' ?_; (simp; done)) | apply Blk.old))
  replace bc := bc.old (o := (.cells #[.int .i64 L4, .int .i64 W4, .string o4] 25))
  replace be := be.old (o := (.cells #[.int .i64 L4, .int .i64 W4, .string o4] 25))
  replace bf := bf.old (o := (.cells #[.int .i64 L4, .int .i64 W4, .string o4] 25))
  replace hx := hx.trans (Ext.alloc w9 (.cells #[.int .i64 L4, .int .i64 W4, .string o4] 25))
  go_wp2_with fail
  with_reducible refine (spec_DrawTwinsOf_any v xs _ (h.ext hx)).mono ?_
  rintro e w10 ⟨_, rfl, ⟨L5, W5, o5, rfl, ho5⟩, hy⟩
  replace hx := hx.trans hy
  replace bc := bc.ext hy
  replace be := be.ext hy
  replace bf := bf.ext hy
  replace bd := bd.ext hy
  clear hy
  obtain ⟨x5, y5, r5, ht1, ht2, ht⟩ := twin_facts L5 W5 o5 (by unfold maxLen; omega)
  have hon := fun w => impl_IsOnto_all L5 W5 o5 w (by unfold maxLen; omega)
  obtain ⟨on5, hone⟩ : ∃ on, on = ontoB L5 W5 o5 := ⟨_, rfl⟩
  rw [← hone] at ht hon
  have H5 := Lib.hid (And.intro ht1 (And.intro ht2 (And.intro ht hon)))
  clear ht1 ht2 ht hon hone
  have bh : Blk (w10.alloc (.cells #[.int .i64 L5, .int .i64 W5, .string o5] 25)) w10.heap.size #[.int .i64 L5, .int .i64 W5, .string o5] := by (repeat (first | (refine Blk.mk' ?_; (simp; done)) | apply Blk.old))
  replace bc := bc.old (o := (.cells #[.int .i64 L5, .int .i64 W5, .string o5] 25))
  replace be := be.old (o := (.cells #[.int .i64 L5, .int .i64 W5, .string o5] 25))
  replace bf := bf.old (o := (.cells #[.int .i64 L5, .int .i64 W5, .string o5] 25))
  replace bd := bd.old (o := (.cells #[.int .i64 L5, .int .i64 W5, .string o5] 25))
  replace hx := hx.trans (Ext.alloc w10 (.cells #[.int .i64 L5, .int .i64 W5, .string o5] 25))
  obtain ⟨h0, h1, h2, -, -, -⟩ := bh.c3
  go_wp2_with fail
  with_reducible refine (H5.out.1 _).mono ?_
  rintro e w11 ⟨rfl, hy⟩
  replace hx := hx.trans hy
  replace bc := bc.ext hy
  replace be := be.ext hy
  replace bf := bf.ext hy
  replace bd := bd.ext hy
  replace bh := bh.ext hy
  clear hy
  clear h0 h1 h2
  obtain ⟨h0, h1, h2, -, -, -⟩ := bh.c3
  go_wp2_with fail
  with_reducible refine (H5.out.2.1 _).mono ?_
  rintro e w12 ⟨rfl, hy⟩
  replace hx := hx.trans hy
  replace bc := bc.ext hy
  replace be := be.ext hy
  replace bf := bf.ext hy
  replace bd := bd.ext hy
  replace bh := bh.ext hy
  clear hy
  clear h0 h1 h2
  obtain ⟨c0, c1, c2, -, -, -⟩ := bc.c3
  obtain ⟨e0, e1, e2, -, -, -⟩ := be.c3
  obtain ⟨d0, d1, d2, -, -, -⟩ := bd.c3
  go_wp2_with fail
  refine wp_region_inv (by kernel_rfl) (.known ?hy_1_v0 :: .known ?hy_1_v1 :: .known (.bool on) :: .known ?hy_1_v3 :: .known ?hy_1_v4 :: .known ?hy_1_v5 :: .known ?hy_1_v6 :: .known ?hy_1_v7 :: .known ?hy_1_v8 :: .known ?hy_1_v9 :: .known ?hy_1_v10 :: .known ?hy_1_v11 :: .known ?hy_1_v12 :: .known ?hy_1_v13 :: .known ?hy_1_v14 :: .known ?hy_1_v15 :: .known ?hy_1_v16 :: .known (.int .i64 n2) :: .known ?hy_1_v18 :: .known ?hy_1_v19 :: .known (.int .i64 n2) :: .known ?hy_1_v21 :: .known ?hy_1_v22 :: .known ?hy_1_v23 :: .known ?hy_1_v24 :: .known ?hy_1_v25 :: .known ?hy_1_v26 :: .known ?hy_1_v27 :: .known ?hy_1_v28 :: .known ?hy_1_v29 :: .known ?hy_1_v30 :: .known ?hy_1_v31 :: .known ?hy_1_v32 :: .known ?hy_1_v33 :: .known ?hy_1_v34 :: .known ?hy_1_v35 :: .known (.bool b4) :: .known ?hy_1_v37 :: .known ?hy_1_v38 :: .known (.bool b4) :: .known ?hy_1_v40 :: .known ?hy_1_v41 :: .known ?hy_1_v42 :: .known ?hy_1_v43 :: .known ?hy_1_v44 :: .known ?hy_1_v45 :: .known ?hy_1_v46 :: .known ?hy_1_v47 :: .known ?hy_1_v48 :: .known ?hy_1_v49 :: .known ?hy_1_v50 :: .known ?hy_1_v51 :: .known ?hy_1_v52 :: .known ?hy_1_v53 :: .known ?hy_1_v54 :: .known ?hy_1_v55 :: .known ?hy_1_v56 :: []) rfl (by kernel_rfl) ?hy_1_s ?hy_1_p
  case hy_1_s =>
    intro vs
    refine ⟨fun w' hxw hj => ?_, fun w' hxw hj => ?_, fun w' hxw hj => ?_, fun w' hxw hj => ?_, fun w' hxw hj => ?_, fun w' hxw hj => ?_, fun w' hxw hj => ?_, fun w' hxw hj => ?_, fun w' hxw hj => ?_, fun w' hxw hj => ?_, fun w' hxw hj => ?_, fun w' hxw hj => ?_, fun w' hxw hj => ?_, fun w' hxw hj => ?_, fun w' hxw hj => ?_, fun w' hxw hj => ?_, fun w' hxw hj => ?_, fun w' hxw hj => ?_, fun w' hxw hj => ?_, fun w' hxw hj => ?_, fun w' hxw hj => ?_, fun w' hxw hj => ?_, fun w' hxw hj => ?_, fun w' hxw hj => ?_, fun w' hxw hj => ?_, fun w' hxw hj => ?_, fun w' hxw hj => ?_, fun w' hxw hj => ?_, fun w' hxw hj => ?_, fun w' hxw hj => ?_, fun w' hxw hj => ?_, fun w' hxw hj => ?_, fun w' hxw hj => ?_, fun w' hxw hj => ?_, fun w' hxw hj => ?_, fun w' hxw hj => ?_, fun w' hxw hj => ?_, fun w' hxw hj => ?_, fun w' hxw hj => ?_, fun w' hxw hj => ?_, fun w' hxw hj => ?_, fun w' hxw hj => ?_, fun w' hxw hj => ?_, fun w' hxw hj => ?_, fun w' hxw hj => ?_, fun w' hxw hj => ?_, fun w' hxw hj => ?_, fun w' hxw hj => ?_, fun w' hxw hj => ?_, fun w' hxw hj => ?_, fun w' hxw hj => ?_, fun w' hxw hj => ?_, fun w' hxw hj => ?_, fun w' hxw hj => ?_, fun w' hxw hj => ?_, fun w' hxw hj => ?_, fun w' hxw hj => ?_, trivial⟩
    · clear hj
      go_simp
      try go_bits
      first | rfl | (rw [if_pos (by omega), if_pos (by omega)]; go_simp; rfl) | (rw [if_pos (by omega)]; go_simp; rfl) | skip
    · have c0 := Ext.cell_some hxw c0
      have c1 := Ext.cell_some hxw c1
      have c2 := Ext.cell_some hxw c2
      clear hj
      go_simp
      try go_bits
      first | rfl | (rw [if_pos (by omega), if_pos (by omega)]; go_simp; rfl) | (rw [if_pos (by omega)]; go_simp; rfl) | skip
    · clear hj
      go_simp
      try go_bits
      exact H1.out.2.1 _
    · clear hj
      go_simp
      try go_bits
      first | rfl | (rw [if_pos (by omega), if_pos (by omega)]; go_simp; rfl) | (rw [if_pos (by omega)]; go_simp; rfl) | skip
    · clear hj
      go_simp
      try go_bits
      first | rfl | (rw [if_pos (by omega), if_pos (by omega)]; go_simp; rfl) | (rw [if_pos (by omega)]; go_simp; rfl) | skip
    · clear hj
      go_simp
      try go_bits
      first | rfl | (rw [if_pos (by omega), if_pos (by omega)]; go_simp; rfl) | (rw [if_pos (by omega)]; go_simp; rfl) | skip
    · clear hj
      go_simp
      try go_bits
      first | rfl | (rw [if_pos (by omega), if_pos (by omega)]; go_simp; rfl) | (rw [if_pos (by omega)]; go_simp; rfl) | skip
    · clear hj
      go_simp
      try go_bits
      first | rfl | (rw [if_pos (by omega), if_pos (by omega)]; go_simp; rfl) | (rw [if_pos (by omega)]; go_simp; rfl) | skip
    · clear hj
      go_simp
      try go_bits
      first | rfl | (rw [if_pos (by omega), if_pos (by omega)]; go_simp; rfl) | (rw [if_pos (by omega)]; go_simp; rfl) | skip
    · clear hj
      go_simp
      try go_bits
      first | rfl | (rw [if_pos (by omega), if_pos (by omega)]; go_simp; rfl) | (rw [if_pos (by omega)]; go_simp; rfl) | skip
    · clear hj
      go_simp
      try go_bits
      first | rfl | (rw [if_pos (by omega), if_pos (by omega)]; go_simp; rfl) | (rw [if_pos (by omega)]; go_simp; rfl) | skip
    · clear hj
      go_simp
      try go_bits
      first | rfl | (rw [if_pos (by omega), if_pos (by omega)]; go_simp; rfl) | (rw [if_pos (by omega)]; go_simp; rfl) | skip
    · clear hj
      go_simp
      try go_bits
      first | rfl | (rw [if_pos (by omega), if_pos (by omega)]; go_simp; rfl) | (rw [if_pos (by omega)]; go_simp; rfl) | skip
    · clear hj
      go_simp
      try go_bits
      first | rfl | (rw [if_pos (by omega), if_pos (by omega)]; go_simp; rfl) | (rw [if_pos (by omega)]; go_simp; rfl) | skip
    · clear hj
      go_simp
      try go_bits
      first | rfl | (rw [if_pos (by omega), if_pos (by omega)]; go_simp; rfl) | (rw [if_pos (by omega)]; go_simp; rfl) | skip
    · have e0 := Ext.cell_some hxw e0
      have e1 := Ext.cell_some hxw e1
      have e2 := Ext.cell_some hxw e2
      clear hj
      go_simp
      try go_bits
      first | rfl | (rw [if_pos (by omega), if_pos (by omega)]; go_simp; rfl) | (rw [if_pos (by omega)]; go_simp; rfl) | skip
    · clear hj
      go_simp
      try go_bits
      first | rfl | (rw [if_pos (by omega), if_pos (by omega)]; go_simp; rfl) | (rw [if_pos (by omega)]; go_simp; rfl) | skip
    · clear hj
      go_simp
      try go_bits
      exact H2.out.1 _
    · have e0 := Ext.cell_some hxw e0
      have e1 := Ext.cell_some hxw e1
      have e2 := Ext.cell_some hxw e2
      clear hj
      go_simp
      try go_bits
      first | rfl | (rw [if_pos (by omega), if_pos (by omega)]; go_simp; rfl) | (rw [if_pos (by omega)]; go_simp; rfl) | skip
    · clear hj
      go_simp
      try go_bits
      first | rfl | (rw [if_pos (by omega), if_pos (by omega)]; go_simp; rfl) | (rw [if_pos (by omega)]; go_simp; rfl) | skip
    · clear hj
      go_simp
      try go_bits
      exact H2.out.2 _
    · clear hj
      go_simp
      try go_bits
      first | rfl | (rw [if_pos (by omega), if_pos (by omega)]; go_simp; rfl) | (rw [if_pos (by omega)]; go_simp; rfl) | skip
    · clear hj
      go_simp
      try go_bits
      first | rfl | (rw [if_pos (by omega), if_pos (by omega)]; go_simp; rfl) | (rw [if_pos (by omega)]; go_simp; rfl) | skip
    · clear hj
      go_simp
      try go_bits
      first | rfl | (rw [if_pos (by omega), if_pos (by omega)]; go_simp; rfl) | (rw [if_pos (by omega)]; go_simp; rfl) | skip
    · clear hj
      go_simp
      try go_bits
      first | rfl | (rw [if_pos (by omega), if_pos (by omega)]; go_simp; rfl) | (rw [if_pos (by omega)]; go_simp; rfl) | skip
    · clear hj
      go_simp
      try go_bits
      first | rfl | (rw [if_pos (by omega), if_pos (by omega)]; go_simp; rfl) | (rw [if_pos (by omega)]; go_simp; rfl) | skip
    · clear hj
      go_simp
      try go_bits
      first | rfl | (rw [if_pos (by omega), if_pos (by omega)]; go_simp; rfl) | (rw [if_pos (by omega)]; go_simp; rfl) | skip
    · clear hj
      go_simp
      try go_bits
      first | rfl | (rw [if_pos (by omega), if_pos (by omega)]; go_simp; rfl) | (rw [if_pos (by omega)]; go_simp; rfl) | skip
    · clear hj
      go_simp
      try go_bits
      first | rfl | (rw [if_pos (by omega), if_pos (by omega)]; go_simp; rfl) | (rw [if_pos (by omega)]; go_simp; rfl) | skip
    · clear hj
      go_simp
      try go_bits
      first | rfl | (rw [if_pos (by omega), if_pos (by omega)]; go_simp; rfl) | (rw [if_pos (by omega)]; go_simp; rfl) | skip
    · clear hj
      go_simp
      try go_bits
      first | rfl | (rw [if_pos (by omega), if_pos (by omega)]; go_simp; rfl) | (rw [if_pos (by omega)]; go_simp; rfl) | skip
    · clear hj
      go_simp
      try go_bits
      first | rfl | (rw [if_pos (by omega), if_pos (by omega)]; go_simp; rfl) | (rw [if_pos (by omega)]; go_simp; rfl) | skip
    · clear hj
      go_simp
      try go_bits
      first | rfl | (rw [if_pos (by omega), if_pos (by omega)]; go_simp; rfl) | (rw [if_pos (by omega)]; go_simp; rfl) | skip
    · clear hj
      go_simp
      try go_bits
      first | rfl | (rw [if_pos (by omega), if_pos (by omega)]; go_simp; rfl) | (rw [if_pos (by omega)]; go_simp; rfl) | skip
    · have d0 := Ext.cell_some hxw d0
      have d1 := Ext.cell_some hxw d1
      have d2 := Ext.cell_some hxw d2
      clear hj
      go_simp
      try go_bits
      first | rfl | (rw [if_pos (by omega), if_pos (by omega)]; go_simp; rfl) | (rw [if_pos (by omega)]; go_simp; rfl) | skip
    · clear hj
      go_simp
      try go_bits
      first | rfl | (rw [if_pos (by omega), if_pos (by omega)]; go_simp; rfl) | (rw [if_pos (by omega)]; go_simp; rfl) | skip
    · clear hj
      go_simp
      try go_bits
      exact H4.out.1 _
    · have d0 := Ext.cell_some hxw d0
      have d1 := Ext.cell_some hxw d1
      have d2 := Ext.cell_some hxw d2
      clear hj
      go_simp
      try go_bits
      first | rfl | (rw [if_pos (by omega), if_pos (by omega)]; go_simp; rfl) | (rw [if_pos (by omega)]; go_simp; rfl) | skip
    · clear hj
      go_simp
      try go_bits
      first | rfl | (rw [if_pos (by omega), if_pos (by omega)]; go_simp; rfl) | (rw [if_pos (by omega)]; go_simp; rfl) | skip
    · clear hj
      go_simp
      try go_bits
      exact H4.out.2.1 _
    · clear hj
      go_simp
      try go_bits
      first | rfl | (rw [if_pos (by omega), if_pos (by omega)]; go_simp; rfl) | (rw [if_pos (by omega)]; go_simp; rfl) | skip
    · clear hj
      go_simp
      try go_bits
      first | rfl | (rw [if_pos (by omega), if_pos (by omega)]; go_simp; rfl) | (rw [if_pos (by omega)]; go_simp; rfl) | skip
    · clear hj
      go_simp
      try go_bits
      first | rfl | (rw [if_pos (by omega), if_pos (by omega)]; go_simp; rfl) | (rw [if_pos (by omega)]; go_simp; rfl) | skip
    · clear hj
      go_simp
      try go_bits
      first | rfl | (rw [if_pos (by omega), if_pos (by omega)]; go_simp; rfl) | (rw [if_pos (by omega)]; go_simp; rfl) | skip
    · clear hj
      go_simp
      try go_bits
      first | rfl | (rw [if_pos (by omega), if_pos (by omega)]; go_simp; rfl) | (rw [if_pos (by omega)]; go_simp; rfl) | skip
    · clear hj
      go_simp
      try go_bits
      first | rfl | (rw [if_pos (by omega), if_pos (by omega)]; go_simp; rfl) | (rw [if_pos (by omega)]; go_simp; rfl) | skip
    · clear hj
      go_simp
      try go_bits
      first | rfl | (rw [if_pos (by omega), if_pos (by omega)]; go_simp; rfl) | (rw [if_pos (by omega)]; go_simp; rfl) | skip
    · clear hj
      go_simp
      try go_bits
      first | rfl | (rw [if_pos (by omega), if_pos (by omega)]; go_simp; rfl) | (rw [if_pos (by omega)]; go_simp; rfl) | skip
    · clear hj
      go_simp
      try go_bits
      first | rfl | (rw [if_pos (by omega), if_pos (by omega)]; go_simp; rfl) | (rw [if_pos (by omega)]; go_simp; rfl) | skip
    · clear hj
      go_simp
      try go_bits
      first | rfl | (rw [if_pos (by omega), if_pos (by omega)]; go_simp; rfl) | (rw [if_pos (by omega)]; go_simp; rfl) | skip
    · clear hj
      go_simp
      try go_bits
      first | rfl | (rw [if_pos (by omega), if_pos (by omega)]; go_simp; rfl) | (rw [if_pos (by omega)]; go_simp; rfl) | skip
    · clear hj
      go_simp
      try go_bits
      first | rfl | (rw [if_pos (by omega), if_pos (by omega)]; go_simp; rfl) | (rw [if_pos (by omega)]; go_simp; rfl) | skip
    · clear hj
      go_simp
      try go_bits
      first | rfl | (rw [if_pos (by omega), if_pos (by omega)]; go_simp; rfl) | (rw [if_pos (by omega)]; go_simp; rfl) | skip
    · clear hj
      go_simp
      try go_bits
      first | rfl | (rw [if_pos (by omega), if_pos (by omega)]; go_simp; rfl) | (rw [if_pos (by omega)]; go_simp; rfl) | skip
    · clear hj
      go_simp
      try go_bits
      first | rfl | (rw [if_pos (by omega), if_pos (by omega)]; go_simp; rfl) | (rw [if_pos (by omega)]; go_simp; rfl) | skip
    · clear hj
      go_simp
      try go_bits
      first | rfl | (rw [if_pos (by omega), if_pos (by omega)]; go_simp; rfl) | (rw [if_pos (by omega)]; go_simp; rfl) | skip
    · clear hj
      go_simp
      try go_bits
      first | rfl | (rw [if_pos (by omega), if_pos (by omega)]; go_simp; rfl) | (rw [if_pos (by omega)]; go_simp; rfl) | skip
  case' hy_1_p =>
    intro vs w13 hy hk
    clear hk
    replace bc := Blk.ext bc hy
    replace bf := Blk.ext bf hy
    replace bd := Blk.ext bd hy
    replace bh := Blk.ext bh hy
    replace hx := Ext.trans hx hy
    go_simp
  as_aux_lemma =>
  clear hy c0 c1 c2 d0 d1 d2 e0 e1 e2 be
  obtain ⟨c0, c1, c2, -, -, -⟩ := bc.c3
  go_upto_region 17 with fail
  go_cut [155] (fun s155 wx => s155 = .bool false ∧ Ext w13 wx)
  case first =>
    cases r1
    · go_wp2
      go_meet
      exact ⟨rfl, Ext.refl _⟩
    · obtain ⟨hon, hc0⟩ := H1.out.2.2.2.2 rfl
      subst hon
      go_wp2_with fail
      with_reducible refine (hc0 _).mono ?_
      rintro e wa ⟨rfl, hya⟩
      go_wp2
      go_meet
      exact ⟨rfl, hya⟩
  case rest =>
  obtain ⟨rfl, hy⟩ := hcut
  clear c0 c1 c2 bc
  replace hx := hx.trans hy
  replace bf := bf.ext hy
  replace bd := bd.ext hy
  replace bh := bh.ext hy
  clear hy
  obtain ⟨f0, f1, f2, -, -, -⟩ := bf.c3
  go_upto_if 156 with fail
  go_cut [26, 27] (fun s26 s27 wx => Ext wc wx)
  case first =>
    cases r3
    · go_wp2
      go_meet
      exact Ext.refl _
    · go_wp2_with fail
      with_reducible refine (H3.out.2.2.2.2 (by first | rfl | trivial) _).mono ?_
      rintro e wa ⟨rfl, hya⟩
      go_wp2
      go_meet
      exact hya
  case rest =>
  have hy := hcut
  clear hcut f0 f1 f2
  replace hx := hx.trans hy
  replace bf := bf.ext hy
  replace bd := bd.ext hy
  replace bh := bh.ext hy
  clear hy
  obtain ⟨f0, f1, f2, -, -, -⟩ := bf.c3
  obtain ⟨d0, d1, d2, -, -, -⟩ := bd.c3
  obtain ⟨we, hwe⟩ : ∃ we : World, we = wc := ⟨_, rfl⟩
  go_upto_region 23 with fail
  go_cut [197] (fun s197 wx => s197 = .bool false ∧ Ext we wx)
  case first =>
    as_aux_lemma =>
    subst hwe
    by_cases hp : 0 < n3
    · obtain rfl : r3 = true := by rw [H3.out.2.2.2.1]; simp [hp]
      go_wp2_with fail
      with_reducible refine (H3.out.2.2.1 _).mono ?_
      rintro e wa ⟨rfl, hya⟩
      replace d0 := hya.cell_some d0
      replace d1 := hya.cell_some d1
      replace d2 := hya.cell_some d2
      go_wp2_with fail
      with_reducible refine (H4.out.2.2.2.2 _).mono ?_
      rintro e wb ⟨rfl, hyb⟩
      replace d0 := hyb.cell_some d0
      replace d1 := hyb.cell_some d1
      replace d2 := hyb.cell_some d2
      replace hya := hya.trans hyb
      clear hyb
      cases ok4
      · go_wp2
        go_meet
        exact ⟨rfl, hya⟩
      go_wp2_with fail
      with_reducible refine (H4.out.2.2.2.1 _).mono ?_
      rintro e wb ⟨rfl, hyb⟩
      replace d0 := hyb.cell_some d0
      replace d1 := hyb.cell_some d1
      replace d2 := hyb.cell_some d2
      replace hya := hya.trans hyb
      clear hyb
      cases on4
      · go_wp2
        go_meet
        exact ⟨rfl, hya⟩
      by_cases h40 : 0 ≤ n4
      · by_cases h45 : n4 ≤ 5
        · have hb4 := H4.out.2.2.1 rfl h40 h45
          go_wp2_with fail
          with_reducible refine (H4.out.1 _).mono ?_
          rintro e wb ⟨rfl, hyb⟩
          subst hb4
          go_wp2
          go_meet
          exact ⟨rfl, hya.trans hyb⟩
        · go_wp2
          go_meet
          exact ⟨rfl, hya⟩
      · go_wp2
        go_meet
        exact ⟨rfl, hya⟩
    · obtain rfl : r3 = false := by rw [H3.out.2.2.2.1]; simp [hp]
      have e3 : decide (0 < n3) = false := by simp [hp]
      clear hp
      go_wp2_with fail
      with_reducible refine (H3.out.2.2.1 _).mono ?_
      rintro e wa ⟨rfl, hya⟩
      replace d0 := hya.cell_some d0
      replace d1 := hya.cell_some d1
      replace d2 := hya.cell_some d2
      go_wp2_with fail
      with_reducible refine (H4.out.2.2.2.2 _).mono ?_
      rintro e wb ⟨rfl, hyb⟩
      replace d0 := hyb.cell_some d0
      replace d1 := hyb.cell_some d1
      replace d2 := hyb.cell_some d2
      replace hya := hya.trans hyb
      clear hyb
      cases ok4
      · go_wp2
        go_meet
        exact ⟨rfl, hya⟩
      go_wp2_with fail
      with_reducible refine (H4.out.2.2.2.1 _).mono ?_
      rintro e wb ⟨rfl, hyb⟩
      replace d0 := hyb.cell_some d0
      replace d1 := hyb.cell_some d1
      replace d2 := hyb.cell_some d2
      replace hya := hya.trans hyb
      clear hyb
      cases on4
      · go_wp2
        go_meet
        exact ⟨rfl, hya⟩
      by_cases h40 : 0 ≤ n4
      · by_cases h45 : n4 ≤ 5
        · have hb4 := H4.out.2.2.1 rfl h40 h45
          go_wp2_with fail
          with_reducible refine (H4.out.1 _).mono ?_
          rintro e wb ⟨rfl, hyb⟩
          subst hb4
          go_wp2
          go_meet
          exact ⟨rfl, hya.trans hyb⟩
        · go_wp2
          go_meet
          exact ⟨rfl, hya⟩
      · go_wp2
        go_meet
        exact ⟨rfl, hya⟩
  case rest =>
  as_aux_lemma =>
  subst hwe
  obtain ⟨rfl, hy⟩ := hcut
  clear f0 f1 f2 d0 d1 d2 bf bd
  replace hx := hx.trans hy
  replace bh := bh.ext hy
  clear hy
  obtain ⟨h0, h1, h2, -, -, -⟩ := bh.c3
  cases r5
  · go_wp2
    go_ret
    exact ⟨rfl, hx⟩
  obtain ⟨hne, hon, a5, ha1, ha2⟩ := H5.out.2.2.1 rfl
  subst hon
  have hxy : (x5.toList == y5.toList) = false := by
    have : x5.toList ≠ y5.toList := fun e => hne (bytes_eq e)
    simpa using this
  have HA := Lib.hid (And.intro ha1 ha2)
  clear hne ha1 ha2
  go_wp2_with fail
  with_reducible refine (HA.out.1 _).mono ?_
  rintro e wa ⟨rfl, hy⟩
  replace hx := hx.trans hy
  replace bh := bh.ext hy
  clear hy h0 h1 h2
  obtain ⟨h0, h1, h2, -, -, -⟩ := bh.c3
  go_wp2_with fail
  with_reducible refine (HA.out.2 _).mono ?_
  rintro e wb ⟨rfl, hy⟩
  replace hx := hx.trans hy
  replace bh := bh.ext hy
  clear hy h0 h1 h2
  obtain ⟨h0, h1, h2, -, -, -⟩ := bh.c3
  go_wp2_with fail
  with_reducible refine (H5.out.2.2.2 _).mono ?_
  rintro e wb' ⟨rfl, hy⟩
  replace hx := hx.trans hy
  go_wp2
  go_ret
  exact ⟨rfl, hx⟩

set_option maxRecDepth 100000 in
set_option linter.unusedVariables false in
theorem fnOnto_lifted (os : Os) (started : os.Started) (H : Type) (enc : TypeId × Value → H) :
    ReturnsInHanded {} Try.checked os 3 .any (Rows.fnOntoSpec.pre6 enc Try.prog Try.f3 Rows.fnOntoRow.domain false) (Rows.fnOntoSpec.post enc Try.prog Try.f3 false true false false) := by
  refine returnsInHanded_of_change (C := Try.checked) own started (by kernel_rfl) Try.func3
    (ChangeSpec.witness6 (enc := enc) (C := Try.checked) false ⟨#[], #[.slice none 0 0], []⟩ 8 (by kernel_rfl) (by kernel_rfl) (by kernel_rfl) (by kernel_rfl)) ?_
  intro W base args ds gs before hval0 hW hcnd _
  have hval : ∀ (j : Nat) t v, Try.f3.params[j]? = some t → args[j]? = some v → Value.okWide Try.prog W .any base t v := hval0
  have hW' := hW
  obtain ⟨p, q, hA0, hV, rfl, hfz, hnd⟩ := hW
  have hA : DataW.TrodAll enc Try.prog W 0 (fun _ => true) true Try.f3.params.toList args.toList ds p := hA0
  rw [Try.params3] at hA hval
  obtain ⟨v0, vs0, d0, ds0, p0, q0, hargs, rfl, rfl, h0, r0⟩ := trodAll_cons hA
  obtain ⟨rfl, rfl, rfl⟩ := trodAll_nil r0
  obtain rfl : args = #[v0] := by cases args; simp_all
  obtain ⟨rfl, rfl⟩ := trodVars_none hV
  have k0 := h0
  have lt0 : ∀ x ∈ p0, x.block < W.heap.size := by obtain ⟨m, hm⟩ := k0; exact DataW.trod_lt m _ _ _ hm
  obtain ⟨xs0, rd0⟩ := bytes_of_trod Try.underlying22 Try.underlying5 (by kernel_rfl) (hval 0 22 v0 rfl rfl) h0
  clear hA0 hval0
  refine (fnOnto_any v0 xs0 W rd0).mono fun e W' ⟨he, bel⟩ => ?_
  subst he
  exact ⟨_, rfl, _, _, _, [], _, [], hW', trodAll_mk1 (shut_bool Try.underlying4 _), (trodAll_cons_mk (Below.trod laidOut (by kernel_rfl) (of_decide_eq_true (by kernel_rfl)) k0 bel lt0) trodAll_mk0), rfl, Below.frame bel _, fun h => by cases h⟩

theorem fnOnto_holds : Rows.FnOntoSaid :=
  OpenClaim.holds_of_wide 3 Try.f3 rfl rfl rfl rfl rfl rfl rfl ⟨rfl, rfl, rfl, rfl, rfl⟩ rfl rfl rfl rfl rfl (by kernel_rfl) Try.func3 (by show joinedFacts Try.prog 3 Try.f3 Rows.fnOntoSpec Rows.fnOntoRow = true; unfold joinedFacts; rw [mayEnter_it, liftsFinal_it, make_it]; kernel_rfl)
    (of_decide_eq_true (by kernel_rfl)) (by unfold Func.isWrapper; first | (rw [if_pos (by decide +kernel)]; kernel_rfl) | (rw [if_neg (by decide +kernel)]; exact ⟨rfl, rfl⟩))
    (fun os started H enc _ => fnOnto_lifted os started H enc)
end Go.Proofs.Ytfkdpeifnfpldaa

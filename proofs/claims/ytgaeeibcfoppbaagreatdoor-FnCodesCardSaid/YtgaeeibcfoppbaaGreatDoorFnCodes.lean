/- For every code the law FnCodes returns true (the tied card). No conditions. -/
import Derived.Test.YtgaeeibcfoppbaaGreatDoorCodesFacts
import Derived.Test.YtgaeeibcfoppbaaGreatDoorDrwG
import Derived.Test.YtgaeeibcfoppbaaGreatDoorBig
import Derived.Test.YtgaeeibcfoppbaaGreatDoorPkC
import Derived.Test.YtgaeeibcfoppbaaGreatDoorLaidTab
import Derived.Test.YtgaeeibcfoppbaaGreatDoorOpen
import Derived.Test.YtgaeeibcfoppbaaGreatDoorTie
import Derived.Test.YtgaeeibcfoppbaaGreatDoorCards
import Derived.LaidLaws
import Derived.LaidMore
import Derived.LaidHandle
import Derived.SevenTiedAt
import Derived.Lay
import Derived.Stop.Joined
import Derived.Deep.DeepCutAuto
namespace Go.Proofs.YtgaeeibcfoppbaaGreatDoor
open Go.ChangeShapes Go.WideShapes Go.ChangeAt Go.RowKit Go.Cm
open Go.ChangeMaps (open_string shut_string)

/-- the four words of the law -/
def fourW (j : Nat) : List UInt8 := if j = 0 then [97, 98, 98, 97, 98] else if j = 1 then [97, 97, 98, 98, 97] else if j = 2 then [98, 97, 98, 97, 98] else [98, 98, 98, 98, 98]
theorem fourW_ok (j : Nat) : areLet 2 (fourW j) = true ∧ (fourW j).length = 5 := by
  unfold fourW
  split
  · exact ⟨rfl, rfl⟩
  · split
    · exact ⟨rfl, rfl⟩
    · split <;> exact ⟨rfl, rfl⟩
theorem fourW_cell (w : World) (j : Nat) (h : j < 4) : (w.alloc (.cells #[.string ⟨#[97, 98, 98, 97, 98]⟩, .string ⟨#[97, 97, 98, 98, 97]⟩, .string ⟨#[98, 97, 98, 97, 98]⟩, .string ⟨#[98, 98, 98, 98, 98]⟩] 9)).cell? ⟨w.heap.size, j, none⟩ = some (.string (mkS (fourW j))) := by
  match j, h with
  | 0, _ => exact cell_new rfl rfl
  | 1, _ => exact cell_new rfl rfl
  | 2, _ => exact cell_new rfl rfl
  | 3, _ => exact cell_new rfl rfl

theorem eql_pick (L W L' W' : Int) (s s' : ByteArray) (w : World) : (if L = L' then if W = W' then if s.toList = s'.toList then (Result.ok (Next.value (Value.bool true)) w : Result Next) else Result.ok (Next.value (Value.bool false)) w else Result.ok (Next.value (Value.bool false)) w else Result.ok (Next.value (Value.bool false)) w) = Result.ok (Next.value (Value.bool (sameCode L W s L' W' s'))) w := by
  unfold sameCode
  by_cases h1 : L = L'
  · by_cases h2 : W = W'
    · by_cases h3 : s.toList = s'.toList
      · have h4 : s = s' := bytes_eq h3
        simp [h1, h2, h4]
      · have h4 : ¬ s = s' := fun e => h3 (congrArg ByteArray.toList e)
        rw [if_pos h1, if_pos h2, if_neg h3, decide_eq_false (fun h => h4 h.2.2)]
    · rw [if_pos h1, if_neg h2, decide_eq_false (fun h => h2 h.2.1)]
  · rw [if_neg h1, decide_eq_false (fun h => h1 h.1)]

set_option maxRecDepth 100000 in
set_option maxHeartbeats 40000000 in
theorem fnCodes_any (v : Value) (xs : List UInt8) (w : World) (h : ReadsB w v xs) (hm : MTE w) :
    Calls Tryz.prog 3 #[v] w fun e w' => e = .returned (.bool true) ∧ Ext w w' := by
  have hx := Ext.refl w
  have HM := Lib.hid hm
  clear hm
  go_enter Tryz.func3, Tryz.ntmps3
  go_wp2_with fail
  with_reducible refine (laws_big_any v xs _ h).mono ?_
  rintro e w1 ⟨b, rfl, rfl⟩
  cases b
  rotate_left
  · go_wp2
    go_ret
    exact ⟨rfl, hx⟩
  go_wp2_with fail
  with_reducible refine (spec_DrawComposeCodes_any v xs _ h).mono ?_
  rintro e w1 ⟨_, _, rfl, ⟨L1, W1, o1, rfl, ho1⟩, ⟨L2, W2, o2, rfl, ho2⟩, hy⟩
  replace hx := hx.trans hy
  clear hy
  obtain ⟨x1, y1, s1, b1, hc1, hc2, hc3⟩ := compose_facts L1 W1 L2 W2 o1 o2 (by unfold maxLen; omega) (by unfold maxLen; omega)
  have H1 := Lib.hid (And.intro hc1 (And.intro hc2 hc3))
  clear hc1 hc2 hc3
  have bc : Blk (w1.alloc (.cells #[.int .i64 L1, .int .i64 W1, .string o1] 25)) w1.heap.size #[.int .i64 L1, .int .i64 W1, .string o1] := by (repeat (first | (refine Blk.mk' ?_; (simp; done)) | apply Blk.old))
  replace hx := hx.trans (Ext.alloc w1 (.cells #[.int .i64 L1, .int .i64 W1, .string o1] 25))
  have bd : Blk ((w1.alloc (.cells #[.int .i64 L1, .int .i64 W1, .string o1] 25)).alloc (.cells #[.int .i64 L2, .int .i64 W2, .string o2] 25)) (w1.heap.size + 1) #[.int .i64 L2, .int .i64 W2, .string o2] := by (repeat (first | (refine Blk.mk' ?_; (simp; done)) | apply Blk.old))
  replace bc := bc.old (o := (.cells #[.int .i64 L2, .int .i64 W2, .string o2] 25))
  replace hx := hx.trans (Ext.alloc (w1.alloc (.cells #[.int .i64 L1, .int .i64 W1, .string o1] 25)) (.cells #[.int .i64 L2, .int .i64 W2, .string o2] 25))
  obtain ⟨c0, c1, c2, -, -, -⟩ := bc.c3
  obtain ⟨d0, d1, d2, -, -, -⟩ := bd.c3
  go_wp2_with fail
  with_reducible refine (H1.out.1 _).mono ?_
  rintro e w2 ⟨rfl, hy⟩
  replace hx := hx.trans hy
  replace bc := bc.ext hy
  replace bd := bd.ext hy
  clear hy
  clear c0 c1 c2 d0 d1 d2
  have bx : Blk (w2.alloc (.cells #[.int .i64 x1, .int .i64 y1, .string s1] 25)) w2.heap.size #[.int .i64 x1, .int .i64 y1, .string s1] := by (repeat (first | (refine Blk.mk' ?_; (simp; done)) | apply Blk.old))
  replace bc := bc.old (o := (.cells #[.int .i64 x1, .int .i64 y1, .string s1] 25))
  replace bd := bd.old (o := (.cells #[.int .i64 x1, .int .i64 y1, .string s1] 25))
  replace hx := hx.trans (Ext.alloc w2 (.cells #[.int .i64 x1, .int .i64 y1, .string s1] 25))
  obtain ⟨c0, c1, c2, -, -, -⟩ := bc.c3
  obtain ⟨d0, d1, d2, -, -, -⟩ := bd.c3
  go_wp2_with fail
  with_reducible refine (H1.out.2.1 _).mono ?_
  rintro e w3 ⟨rfl, hy⟩
  replace hx := hx.trans hy
  replace bc := bc.ext hy
  replace bd := bd.ext hy
  replace bx := bx.ext hy
  clear hy
  clear c0 c1 c2 d0 d1 d2
  have bw : Blk (w3.alloc (.cells #[.int .i64 x1, .int .i64 y1, .string s1] 25)) w3.heap.size #[.int .i64 x1, .int .i64 y1, .string s1] := by (repeat (first | (refine Blk.mk' ?_; (simp; done)) | apply Blk.old))
  replace bc := bc.old (o := (.cells #[.int .i64 x1, .int .i64 y1, .string s1] 25))
  replace bd := bd.old (o := (.cells #[.int .i64 x1, .int .i64 y1, .string s1] 25))
  replace bx := bx.old (o := (.cells #[.int .i64 x1, .int .i64 y1, .string s1] 25))
  replace hx := hx.trans (Ext.alloc w3 (.cells #[.int .i64 x1, .int .i64 y1, .string s1] 25))
  go_wp2_with fail
  with_reducible refine (spec_DrawApplyCode_any v xs _ (h.ext hx)).mono ?_
  rintro e w4 ⟨_, u3, rfl, ⟨L3, W3, o3, rfl, ho3⟩, hu3, hy⟩
  replace hx := hx.trans hy
  replace bc := bc.ext hy
  replace bd := bd.ext hy
  replace bx := bx.ext hy
  replace bw := bw.ext hy
  clear hy
  obtain ⟨v3, b3, ha1, ha2⟩ := apply_facts L3 W3 o3 u3 (by unfold maxLen; omega) (by unfold maxLen; omega)
  have H2 := Lib.hid (And.intro ha1 ha2)
  clear ha1 ha2
  have be : Blk (w4.alloc (.cells #[.int .i64 L3, .int .i64 W3, .string o3] 25)) w4.heap.size #[.int .i64 L3, .int .i64 W3, .string o3] := by (repeat (first | (refine Blk.mk' ?_; (simp; done)) | apply Blk.old))
  replace bc := bc.old (o := (.cells #[.int .i64 L3, .int .i64 W3, .string o3] 25))
  replace bd := bd.old (o := (.cells #[.int .i64 L3, .int .i64 W3, .string o3] 25))
  replace bx := bx.old (o := (.cells #[.int .i64 L3, .int .i64 W3, .string o3] 25))
  replace bw := bw.old (o := (.cells #[.int .i64 L3, .int .i64 W3, .string o3] 25))
  replace hx := hx.trans (Ext.alloc w4 (.cells #[.int .i64 L3, .int .i64 W3, .string o3] 25))
  obtain ⟨e0, e1, e2, -, -, -⟩ := be.c3
  go_wp2_with fail
  with_reducible refine (H2.out.1 _).mono ?_
  rintro e w5 ⟨rfl, hy⟩
  replace hx := hx.trans hy
  replace bc := bc.ext hy
  replace bd := bd.ext hy
  replace bx := bx.ext hy
  replace bw := bw.ext hy
  replace be := be.ext hy
  clear hy
  clear e0 e1 e2
  obtain ⟨e0, e1, e2, -, -, -⟩ := be.c3
  go_wp2_with fail
  with_reducible refine (H2.out.2 _).mono ?_
  rintro e w6 ⟨rfl, hy⟩
  replace hx := hx.trans hy
  replace bc := bc.ext hy
  replace bd := bd.ext hy
  replace bx := bx.ext hy
  replace bw := bw.ext hy
  replace be := be.ext hy
  clear hy
  clear e0 e1 e2
  go_wp2_with fail
  with_reducible refine (spec_DrawApplyRing_any v xs _ (h.ext hx)).mono ?_
  rintro e w7 ⟨_, u4, rfl, ⟨L4, W4, o4, rfl, ho4⟩, hu4, hy⟩
  replace hx := hx.trans hy
  replace bc := bc.ext hy
  replace bd := bd.ext hy
  replace bx := bx.ext hy
  replace bw := bw.ext hy
  replace be := be.ext hy
  clear hy
  obtain ⟨v4, b4, ha1, ha2, ha3⟩ := ring_facts L4 W4 o4 u4 (by unfold maxLen; omega) (by unfold maxLen; omega)
  have H3 := Lib.hid (And.intro ha1 (And.intro ha2 ha3))
  clear ha1 ha2 ha3
  clear be
  have bf : Blk (w7.alloc (.cells #[.int .i64 L4, .int .i64 W4, .string o4] 25)) w7.heap.size #[.int .i64 L4, .int .i64 W4, .string o4] := by (repeat (first | (refine Blk.mk' ?_; (simp; done)) | apply Blk.old))
  replace bc := bc.old (o := (.cells #[.int .i64 L4, .int .i64 W4, .string o4] 25))
  replace bd := bd.old (o := (.cells #[.int .i64 L4, .int .i64 W4, .string o4] 25))
  replace bx := bx.old (o := (.cells #[.int .i64 L4, .int .i64 W4, .string o4] 25))
  replace bw := bw.old (o := (.cells #[.int .i64 L4, .int .i64 W4, .string o4] 25))
  replace hx := hx.trans (Ext.alloc w7 (.cells #[.int .i64 L4, .int .i64 W4, .string o4] 25))
  obtain ⟨f0, f1, f2, -, -, -⟩ := bf.c3
  go_wp2_with fail
  with_reducible refine (H3.out.1 _).mono ?_
  rintro e w8 ⟨rfl, hy⟩
  replace hx := hx.trans hy
  replace bc := bc.ext hy
  replace bd := bd.ext hy
  replace bx := bx.ext hy
  replace bw := bw.ext hy
  replace bf := bf.ext hy
  clear hy
  clear f0 f1 f2
  obtain ⟨f0, f1, f2, -, -, -⟩ := bf.c3
  go_wp2_with fail
  with_reducible refine (H3.out.2.1 _).mono ?_
  rintro e w9 ⟨rfl, hy⟩
  replace hx := hx.trans hy
  replace bc := bc.ext hy
  replace bd := bd.ext hy
  replace bx := bx.ext hy
  replace bw := bw.ext hy
  replace bf := bf.ext hy
  clear hy
  clear f0 f1 f2
  clear bf
  go_wp2_with fail
  with_reducible refine (spec_DrawParseCode_any v xs _ (h.ext hx)).mono ?_
  rintro e w10 ⟨u5, rfl, hu5, hy⟩
  replace hx := hx.trans hy
  replace bc := bc.ext hy
  replace bd := bd.ext hy
  replace bx := bx.ext hy
  replace bw := bw.ext hy
  clear hy
  obtain ⟨x5, y5, s5, b5, hp1, hp2, -, -⟩ := parse_both u5.data.toList (by
    have hq : (mkS u5.data.toList).size = u5.data.toList.length := mkS_size _
    rw [mkS_data_self] at hq
    omega)
  rw [mkS_data_self] at hp1 hp2
  have H4 := Lib.hid (And.intro hp1 hp2)
  clear hp1 hp2
  go_wp2_with fail
  with_reducible refine (H4.out.2 _ (HM.out.ext hx)).mono ?_
  rintro e w11 ⟨rfl, hy⟩
  replace hx := hx.trans hy
  replace bc := bc.ext hy
  replace bd := bd.ext hy
  replace bx := bx.ext hy
  replace bw := bw.ext hy
  clear hy
  have by' : Blk (w11.alloc (.cells #[.int .i64 x5, .int .i64 y5, .string s5] 25)) w11.heap.size #[.int .i64 x5, .int .i64 y5, .string s5] := by (repeat (first | (refine Blk.mk' ?_; (simp; done)) | apply Blk.old))
  replace bc := bc.old (o := (.cells #[.int .i64 x5, .int .i64 y5, .string s5] 25))
  replace bd := bd.old (o := (.cells #[.int .i64 x5, .int .i64 y5, .string s5] 25))
  replace bx := bx.old (o := (.cells #[.int .i64 x5, .int .i64 y5, .string s5] 25))
  replace bw := bw.old (o := (.cells #[.int .i64 x5, .int .i64 y5, .string s5] 25))
  replace hx := hx.trans (Ext.alloc w11 (.cells #[.int .i64 x5, .int .i64 y5, .string s5] 25))
  go_wp2_with fail
  with_reducible refine (H4.out.1 _).mono ?_
  rintro e w12 ⟨rfl, hy⟩
  replace hx := hx.trans hy
  replace bc := bc.ext hy
  replace bd := bd.ext hy
  replace bx := bx.ext hy
  replace bw := bw.ext hy
  replace by' := by'.ext hy
  clear hy
  have bz : Blk (w12.alloc (.cells #[.int .i64 x5, .int .i64 y5, .string s5] 25)) w12.heap.size #[.int .i64 x5, .int .i64 y5, .string s5] := by (repeat (first | (refine Blk.mk' ?_; (simp; done)) | apply Blk.old))
  replace bc := bc.old (o := (.cells #[.int .i64 x5, .int .i64 y5, .string s5] 25))
  replace bd := bd.old (o := (.cells #[.int .i64 x5, .int .i64 y5, .string s5] 25))
  replace bx := bx.old (o := (.cells #[.int .i64 x5, .int .i64 y5, .string s5] 25))
  replace bw := bw.old (o := (.cells #[.int .i64 x5, .int .i64 y5, .string s5] 25))
  replace by' := by'.old (o := (.cells #[.int .i64 x5, .int .i64 y5, .string s5] 25))
  replace hx := hx.trans (Ext.alloc w12 (.cells #[.int .i64 x5, .int .i64 y5, .string s5] 25))
  go_wp2_with fail
  with_reducible refine (spec_DrawCopyCode_any v xs _ (h.ext hx)).mono ?_
  rintro e w13 ⟨i6, j6, k6, rfl, hy⟩
  replace hx := hx.trans hy
  replace bc := bc.ext hy
  replace bd := bd.ext hy
  replace bx := bx.ext hy
  replace bw := bw.ext hy
  replace by' := by'.ext hy
  replace bz := bz.ext hy
  clear hy
  obtain ⟨x6, y6, s6, b6, hk1, hk2⟩ := copy_facts i6 j6 k6
  have H5 := Lib.hid (And.intro hk1 hk2)
  clear hk1 hk2
  go_wp2_with fail
  with_reducible refine (H5.out.1 _).mono ?_
  rintro e w14 ⟨rfl, hy⟩
  replace hx := hx.trans hy
  replace bc := bc.ext hy
  replace bd := bd.ext hy
  replace bx := bx.ext hy
  replace bw := bw.ext hy
  replace by' := by'.ext hy
  replace bz := bz.ext hy
  clear hy
  have bl : Blk (w14.alloc (.cells #[.int .i64 x6, .int .i64 y6, .string s6] 25)) w14.heap.size #[.int .i64 x6, .int .i64 y6, .string s6] := by (repeat (first | (refine Blk.mk' ?_; (simp; done)) | apply Blk.old))
  replace bc := bc.old (o := (.cells #[.int .i64 x6, .int .i64 y6, .string s6] 25))
  replace bd := bd.old (o := (.cells #[.int .i64 x6, .int .i64 y6, .string s6] 25))
  replace bx := bx.old (o := (.cells #[.int .i64 x6, .int .i64 y6, .string s6] 25))
  replace bw := bw.old (o := (.cells #[.int .i64 x6, .int .i64 y6, .string s6] 25))
  replace by' := by'.old (o := (.cells #[.int .i64 x6, .int .i64 y6, .string s6] 25))
  replace bz := bz.old (o := (.cells #[.int .i64 x6, .int .i64 y6, .string s6] 25))
  replace hx := hx.trans (Ext.alloc w14 (.cells #[.int .i64 x6, .int .i64 y6, .string s6] 25))
  go_wp2_with fail
  with_reducible refine (H5.out.2 _).mono ?_
  rintro e w15 ⟨rfl, hy⟩
  replace hx := hx.trans hy
  replace bc := bc.ext hy
  replace bd := bd.ext hy
  replace bx := bx.ext hy
  replace bw := bw.ext hy
  replace by' := by'.ext hy
  replace bz := bz.ext hy
  replace bl := bl.ext hy
  clear hy
  have bm : Blk (w15.alloc (.cells #[.int .i64 x6, .int .i64 y6, .string s6] 25)) w15.heap.size #[.int .i64 x6, .int .i64 y6, .string s6] := by (repeat (first | (refine Blk.mk' ?_; (simp; done)) | apply Blk.old))
  replace bc := bc.old (o := (.cells #[.int .i64 x6, .int .i64 y6, .string s6] 25))
  replace bd := bd.old (o := (.cells #[.int .i64 x6, .int .i64 y6, .string s6] 25))
  replace bx := bx.old (o := (.cells #[.int .i64 x6, .int .i64 y6, .string s6] 25))
  replace bw := bw.old (o := (.cells #[.int .i64 x6, .int .i64 y6, .string s6] 25))
  replace by' := by'.old (o := (.cells #[.int .i64 x6, .int .i64 y6, .string s6] 25))
  replace bz := bz.old (o := (.cells #[.int .i64 x6, .int .i64 y6, .string s6] 25))
  replace bl := bl.old (o := (.cells #[.int .i64 x6, .int .i64 y6, .string s6] 25))
  replace hx := hx.trans (Ext.alloc w15 (.cells #[.int .i64 x6, .int .i64 y6, .string s6] 25))
  have hok := fun w => impl_IsCode_any L1 W1 o1 w (by unfold maxLen; omega)
  have hok2 := fun w => spec_IsCode_any L1 W1 o1 w (by unfold maxLen; omega)
  have heq := fun w => impl_EqualCode_any L1 W1 L2 W2 o1 o2 w
  obtain ⟨kk, hkk⟩ : ∃ kk, kk = codeOk L1 W1 o1 := ⟨_, rfl⟩
  obtain ⟨se, hse⟩ : ∃ se, se = sameCode L1 W1 o1 L2 W2 o2 := ⟨_, rfl⟩
  rw [← hkk] at hok hok2
  rw [← hse] at heq
  have H6 := Lib.hid (And.intro hok (And.intro hok2 (And.intro heq (And.intro hkk hse))))
  clear hok hok2 heq hkk hse
  obtain ⟨c0, c1, c2, -, -, -⟩ := bc.c3
  obtain ⟨d0, d1, d2, -, -, -⟩ := bd.c3
  obtain ⟨xa0, xa1, xa2, -, -, -⟩ := bx.c3
  obtain ⟨wa0, wa1, wa2, -, -, -⟩ := bw.c3
  obtain ⟨ya0, ya1, ya2, -, -, -⟩ := by'.c3
  obtain ⟨za0, za1, za2, -, -, -⟩ := bz.c3
  obtain ⟨la0, la1, la2, -, -, -⟩ := bl.c3
  obtain ⟨ma0, ma1, ma2, -, -, -⟩ := bm.c3
  go_wp2_with fail
  refine wp_region_inv (by kernel_rfl) (.known ?hy_1_v0 :: .known ?hy_1_v1 :: .known ?hy_1_v2 :: .known ?hy_1_v3 :: .known ?hy_1_v4 :: .known ?hy_1_v5 :: .known ?hy_1_v6 :: .known ?hy_1_v7 :: .known ?hy_1_v8 :: .known ?hy_1_v9 :: .known ?hy_1_v10 :: .known ?hy_1_v11 :: .known ?hy_1_v12 :: .known ?hy_1_v13 :: .known ?hy_1_v14 :: .known ?hy_1_v15 :: .known ?hy_1_v16 :: .known ?hy_1_v17 :: .known ?hy_1_v18 :: .known ?hy_1_v19 :: .known ?hy_1_v20 :: .known ?hy_1_v21 :: .known ?hy_1_v22 :: .known ?hy_1_v23 :: .known ?hy_1_v24 :: .known ?hy_1_v25 :: .known ?hy_1_v26 :: .known ?hy_1_v27 :: .known ?hy_1_v28 :: .known ?hy_1_v29 :: .known ?hy_1_v30 :: .known ?hy_1_v31 :: .known ?hy_1_v32 :: .known ?hy_1_v33 :: .known ?hy_1_v34 :: .known ?hy_1_v35 :: .known ?hy_1_v36 :: .known ?hy_1_v37 :: .known ?hy_1_v38 :: .known ?hy_1_v39 :: .known ?hy_1_v40 :: .known ?hy_1_v41 :: .known ?hy_1_v42 :: .known ?hy_1_v43 :: .known ?hy_1_v44 :: .known ?hy_1_v45 :: .known ?hy_1_v46 :: .known ?hy_1_v47 :: .known ?hy_1_v48 :: .known ?hy_1_v49 :: .known (.bool kk) :: .known ?hy_1_v51 :: .known (.bool kk) :: .known ?hy_1_v53 :: .known ?hy_1_v54 :: .known ?hy_1_v55 :: .known ?hy_1_v56 :: .known ?hy_1_v57 :: .known (.bool se) :: .known ?hy_1_v59 :: .known ?hy_1_v60 :: .known (.bool se) :: .known ?hy_1_v62 :: .known ?hy_1_v63 :: []) rfl (by kernel_rfl) ?hy_1_s ?hy_1_p
  case hy_1_s =>
    intro vs
    refine ⟨fun w' hxw hj => ?_, fun w' hxw hj => ?_, fun w' hxw hj => ?_, fun w' hxw hj => ?_, fun w' hxw hj => ?_, fun w' hxw hj => ?_, fun w' hxw hj => ?_, fun w' hxw hj => ?_, fun w' hxw hj => ?_, fun w' hxw hj => ?_, fun w' hxw hj => ?_, fun w' hxw hj => ?_, fun w' hxw hj => ?_, fun w' hxw hj => ?_, fun w' hxw hj => ?_, fun w' hxw hj => ?_, fun w' hxw hj => ?_, fun w' hxw hj => ?_, fun w' hxw hj => ?_, fun w' hxw hj => ?_, fun w' hxw hj => ?_, fun w' hxw hj => ?_, fun w' hxw hj => ?_, fun w' hxw hj => ?_, fun w' hxw hj => ?_, fun w' hxw hj => ?_, fun w' hxw hj => ?_, fun w' hxw hj => ?_, fun w' hxw hj => ?_, fun w' hxw hj => ?_, fun w' hxw hj => ?_, fun w' hxw hj => ?_, fun w' hxw hj => ?_, fun w' hxw hj => ?_, fun w' hxw hj => ?_, fun w' hxw hj => ?_, fun w' hxw hj => ?_, fun w' hxw hj => ?_, fun w' hxw hj => ?_, fun w' hxw hj => ?_, fun w' hxw hj => ?_, fun w' hxw hj => ?_, fun w' hxw hj => ?_, fun w' hxw hj => ?_, fun w' hxw hj => ?_, fun w' hxw hj => ?_, fun w' hxw hj => ?_, fun w' hxw hj => ?_, fun w' hxw hj => ?_, fun w' hxw hj => ?_, fun w' hxw hj => ?_, fun w' hxw hj => ?_, fun w' hxw hj => ?_, fun w' hxw hj => ?_, fun w' hxw hj => ?_, fun w' hxw hj => ?_, fun w' hxw hj => ?_, fun w' hxw hj => ?_, fun w' hxw hj => ?_, fun w' hxw hj => ?_, fun w' hxw hj => ?_, fun w' hxw hj => ?_, fun w' hxw hj => ?_, fun w' hxw hj => ?_, trivial⟩
    · clear hj
      go_simp
      try go_bits
      first | rfl | (rw [if_pos (by omega), if_pos (by omega)]; go_simp; rfl) | (rw [if_pos (by omega)]; go_simp; rfl) | skip
    · clear hj
      go_simp
      try go_bits
      first | rfl | (rw [if_pos (by omega), if_pos (by omega)]; go_simp; rfl) | (rw [if_pos (by omega)]; go_simp; rfl) | skip
    · clear hj
      go_simp
      try go_bits
      first | rfl | (rw [if_pos (by omega), if_pos (by omega)]; go_simp; rfl) | (rw [if_pos (by omega)]; go_simp; rfl) | skip
    · clear hj
      go_simp
      try go_bits
      first | rfl | (rw [if_pos (by omega), if_pos (by omega)]; go_simp; rfl) | (rw [if_pos (by omega)]; go_simp; rfl) | skip
    · have xa0 := Ext.cell_some hxw xa0
      have xa1 := Ext.cell_some hxw xa1
      have xa2 := Ext.cell_some hxw xa2
      clear hj
      go_simp
      try go_bits
      first | rfl | (rw [if_pos (by omega), if_pos (by omega)]; go_simp; rfl) | (rw [if_pos (by omega)]; go_simp; rfl) | skip
    · have wa0 := Ext.cell_some hxw wa0
      have wa1 := Ext.cell_some hxw wa1
      have wa2 := Ext.cell_some hxw wa2
      clear hj
      go_simp
      try go_bits
      first | rfl | (rw [if_pos (by omega), if_pos (by omega)]; go_simp; rfl) | (rw [if_pos (by omega)]; go_simp; rfl) | skip
    · clear hj
      go_simp
      try go_bits
      first | rfl | (rw [if_pos (by omega), if_pos (by omega)]; go_simp; rfl) | (rw [if_pos (by omega)]; go_simp; rfl) | skip
    · clear hj
      go_simp
      try go_bits
      first | rfl | (rw [if_pos (by omega), if_pos (by omega)]; go_simp; rfl) | (rw [if_pos (by omega)]; go_simp; rfl) | skip
    · clear hj
      go_simp
      try go_bits
      first | rfl | (rw [if_pos (by omega), if_pos (by omega)]; go_simp; rfl) | (rw [if_pos (by omega)]; go_simp; rfl) | skip
    · clear hj
      go_simp
      try go_bits
      first | rfl | (rw [if_pos (by omega), if_pos (by omega)]; go_simp; rfl) | (rw [if_pos (by omega)]; go_simp; rfl) | skip
    · clear hj
      go_simp
      try go_bits
      first | rfl | (rw [if_pos (by omega), if_pos (by omega)]; go_simp; rfl) | (rw [if_pos (by omega)]; go_simp; rfl) | skip
    · clear hj
      go_simp
      try go_bits
      first | rfl | (rw [if_pos (by omega), if_pos (by omega)]; go_simp; rfl) | (rw [if_pos (by omega)]; go_simp; rfl) | skip
    · clear hj
      go_simp
      try go_bits
      first | rfl | (rw [if_pos (by omega), if_pos (by omega)]; go_simp; rfl) | (rw [if_pos (by omega)]; go_simp; rfl) | skip
    · clear hj
      go_simp
      try go_bits
      first | rfl | (rw [if_pos (by omega), if_pos (by omega)]; go_simp; rfl) | (rw [if_pos (by omega)]; go_simp; rfl) | skip
    · clear hj
      go_simp
      try go_bits
      first | rfl | (rw [if_pos (by omega), if_pos (by omega)]; go_simp; rfl) | (rw [if_pos (by omega)]; go_simp; rfl) | skip
    · clear hj
      go_simp
      try go_bits
      first | rfl | (rw [if_pos (by omega), if_pos (by omega)]; go_simp; rfl) | (rw [if_pos (by omega)]; go_simp; rfl) | skip
    · clear hj
      go_simp
      try go_bits
      first | rfl | (rw [if_pos (by omega), if_pos (by omega)]; go_simp; rfl) | (rw [if_pos (by omega)]; go_simp; rfl) | skip
    · clear hj
      go_simp
      try go_bits
      first | rfl | (rw [if_pos (by omega), if_pos (by omega)]; go_simp; rfl) | (rw [if_pos (by omega)]; go_simp; rfl) | skip
    · clear hj
      go_simp
      try go_bits
      first | rfl | (rw [if_pos (by omega), if_pos (by omega)]; go_simp; rfl) | (rw [if_pos (by omega)]; go_simp; rfl) | skip
    · clear hj
      go_simp
      try go_bits
      first | rfl | (rw [if_pos (by omega), if_pos (by omega)]; go_simp; rfl) | (rw [if_pos (by omega)]; go_simp; rfl) | skip
    · clear hj
      go_simp
      try go_bits
      first | rfl | (rw [if_pos (by omega), if_pos (by omega)]; go_simp; rfl) | (rw [if_pos (by omega)]; go_simp; rfl) | skip
    · clear hj
      go_simp
      try go_bits
      first | rfl | (rw [if_pos (by omega), if_pos (by omega)]; go_simp; rfl) | (rw [if_pos (by omega)]; go_simp; rfl) | skip
    · clear hj
      go_simp
      try go_bits
      first | rfl | (rw [if_pos (by omega), if_pos (by omega)]; go_simp; rfl) | (rw [if_pos (by omega)]; go_simp; rfl) | skip
    · clear hj
      go_simp
      try go_bits
      first | rfl | (rw [if_pos (by omega), if_pos (by omega)]; go_simp; rfl) | (rw [if_pos (by omega)]; go_simp; rfl) | skip
    · clear hj
      go_simp
      try go_bits
      first | rfl | (rw [if_pos (by omega), if_pos (by omega)]; go_simp; rfl) | (rw [if_pos (by omega)]; go_simp; rfl) | skip
    · clear hj
      go_simp
      try go_bits
      first | rfl | (rw [if_pos (by omega), if_pos (by omega)]; go_simp; rfl) | (rw [if_pos (by omega)]; go_simp; rfl) | skip
    · clear hj
      go_simp
      try go_bits
      first | rfl | (rw [if_pos (by omega), if_pos (by omega)]; go_simp; rfl) | (rw [if_pos (by omega)]; go_simp; rfl) | skip
    · clear hj
      go_simp
      try go_bits
      first | rfl | (rw [if_pos (by omega), if_pos (by omega)]; go_simp; rfl) | (rw [if_pos (by omega)]; go_simp; rfl) | skip
    · clear hj
      go_simp
      try go_bits
      first | rfl | (rw [if_pos (by omega), if_pos (by omega)]; go_simp; rfl) | (rw [if_pos (by omega)]; go_simp; rfl) | skip
    · clear hj
      go_simp
      try go_bits
      first | rfl | (rw [if_pos (by omega), if_pos (by omega)]; go_simp; rfl) | (rw [if_pos (by omega)]; go_simp; rfl) | skip
    · clear hj
      go_simp
      try go_bits
      first | rfl | (rw [if_pos (by omega), if_pos (by omega)]; go_simp; rfl) | (rw [if_pos (by omega)]; go_simp; rfl) | skip
    · clear hj
      go_simp
      try go_bits
      first | rfl | (rw [if_pos (by omega), if_pos (by omega)]; go_simp; rfl) | (rw [if_pos (by omega)]; go_simp; rfl) | skip
    · clear hj
      go_simp
      try go_bits
      first | rfl | (rw [if_pos (by omega), if_pos (by omega)]; go_simp; rfl) | (rw [if_pos (by omega)]; go_simp; rfl) | skip
    · clear hj
      go_simp
      try go_bits
      first | rfl | (rw [if_pos (by omega), if_pos (by omega)]; go_simp; rfl) | (rw [if_pos (by omega)]; go_simp; rfl) | skip
    · have ya0 := Ext.cell_some hxw ya0
      have ya1 := Ext.cell_some hxw ya1
      have ya2 := Ext.cell_some hxw ya2
      clear hj
      go_simp
      try go_bits
      first | rfl | (rw [if_pos (by omega), if_pos (by omega)]; go_simp; rfl) | (rw [if_pos (by omega)]; go_simp; rfl) | skip
    · have za0 := Ext.cell_some hxw za0
      have za1 := Ext.cell_some hxw za1
      have za2 := Ext.cell_some hxw za2
      clear hj
      go_simp
      try go_bits
      first | rfl | (rw [if_pos (by omega), if_pos (by omega)]; go_simp; rfl) | (rw [if_pos (by omega)]; go_simp; rfl) | skip
    · clear hj
      go_simp
      try go_bits
      first | rfl | (rw [if_pos (by omega), if_pos (by omega)]; go_simp; rfl) | (rw [if_pos (by omega)]; go_simp; rfl) | skip
    · clear hj
      go_simp
      try go_bits
      first | rfl | (rw [if_pos (by omega), if_pos (by omega)]; go_simp; rfl) | (rw [if_pos (by omega)]; go_simp; rfl) | skip
    · clear hj
      go_simp
      try go_bits
      first | rfl | (rw [if_pos (by omega), if_pos (by omega)]; go_simp; rfl) | (rw [if_pos (by omega)]; go_simp; rfl) | skip
    · clear hj
      go_simp
      try go_bits
      first | rfl | (rw [if_pos (by omega), if_pos (by omega)]; go_simp; rfl) | (rw [if_pos (by omega)]; go_simp; rfl) | skip
    · clear hj
      go_simp
      try go_bits
      first | rfl | (rw [if_pos (by omega), if_pos (by omega)]; go_simp; rfl) | (rw [if_pos (by omega)]; go_simp; rfl) | skip
    · clear hj
      go_simp
      try go_bits
      first | rfl | (rw [if_pos (by omega), if_pos (by omega)]; go_simp; rfl) | (rw [if_pos (by omega)]; go_simp; rfl) | skip
    · clear hj
      go_simp
      try go_bits
      first | rfl | (rw [if_pos (by omega), if_pos (by omega)]; go_simp; rfl) | (rw [if_pos (by omega)]; go_simp; rfl) | skip
    · clear hj
      go_simp
      try go_bits
      first | rfl | (rw [if_pos (by omega), if_pos (by omega)]; go_simp; rfl) | (rw [if_pos (by omega)]; go_simp; rfl) | skip
    · have la0 := Ext.cell_some hxw la0
      have la1 := Ext.cell_some hxw la1
      have la2 := Ext.cell_some hxw la2
      clear hj
      go_simp
      try go_bits
      first | rfl | (rw [if_pos (by omega), if_pos (by omega)]; go_simp; rfl) | (rw [if_pos (by omega)]; go_simp; rfl) | skip
    · have ma0 := Ext.cell_some hxw ma0
      have ma1 := Ext.cell_some hxw ma1
      have ma2 := Ext.cell_some hxw ma2
      clear hj
      go_simp
      try go_bits
      first | rfl | (rw [if_pos (by omega), if_pos (by omega)]; go_simp; rfl) | (rw [if_pos (by omega)]; go_simp; rfl) | skip
    · clear hj
      go_simp
      try go_bits
      first | rfl | (rw [if_pos (by omega), if_pos (by omega)]; go_simp; rfl) | (rw [if_pos (by omega)]; go_simp; rfl) | skip
    · clear hj
      go_simp
      try go_bits
      first | rfl | (rw [if_pos (by omega), if_pos (by omega)]; go_simp; rfl) | (rw [if_pos (by omega)]; go_simp; rfl) | skip
    · clear hj
      go_simp
      try go_bits
      first | rfl | (rw [if_pos (by omega), if_pos (by omega)]; go_simp; rfl) | (rw [if_pos (by omega)]; go_simp; rfl) | skip
    · have c0 := Ext.cell_some hxw c0
      have c1 := Ext.cell_some hxw c1
      have c2 := Ext.cell_some hxw c2
      clear hj
      go_simp
      try go_bits
      first | rfl | (rw [if_pos (by omega), if_pos (by omega)]; go_simp; rfl) | (rw [if_pos (by omega)]; go_simp; rfl) | skip
    · clear hj
      go_simp
      try go_bits
      exact H6.out.1 _
    · have c0 := Ext.cell_some hxw c0
      have c1 := Ext.cell_some hxw c1
      have c2 := Ext.cell_some hxw c2
      clear hj
      go_simp
      try go_bits
      first | rfl | (rw [if_pos (by omega), if_pos (by omega)]; go_simp; rfl) | (rw [if_pos (by omega)]; go_simp; rfl) | skip
    · clear hj
      go_simp
      try go_bits
      exact H6.out.2.1 _
    · clear hj
      go_simp
      try go_bits
      first | rfl | (rw [if_pos (by omega), if_pos (by omega)]; go_simp; rfl) | (rw [if_pos (by omega)]; go_simp; rfl) | skip
    · clear hj
      go_simp
      try go_bits
      first | rfl | (rw [if_pos (by omega), if_pos (by omega)]; go_simp; rfl) | (rw [if_pos (by omega)]; go_simp; rfl) | skip
    · clear hj
      go_simp
      try go_bits
      first | rfl | (rw [if_pos (by omega), if_pos (by omega)]; go_simp; rfl) | (rw [if_pos (by omega)]; go_simp; rfl) | skip
    · have c0 := Ext.cell_some hxw c0
      have c1 := Ext.cell_some hxw c1
      have c2 := Ext.cell_some hxw c2
      clear hj
      go_simp
      try go_bits
      first | rfl | (rw [if_pos (by omega), if_pos (by omega)]; go_simp; rfl) | (rw [if_pos (by omega)]; go_simp; rfl) | skip
    · have d0 := Ext.cell_some hxw d0
      have d1 := Ext.cell_some hxw d1
      have d2 := Ext.cell_some hxw d2
      clear hj
      go_simp
      try go_bits
      first | rfl | (rw [if_pos (by omega), if_pos (by omega)]; go_simp; rfl) | (rw [if_pos (by omega)]; go_simp; rfl) | skip
    · clear hj
      go_simp
      try go_bits
      exact H6.out.2.2.1 _
    · have c0 := Ext.cell_some hxw c0
      have c1 := Ext.cell_some hxw c1
      have c2 := Ext.cell_some hxw c2
      clear hj
      go_simp
      try go_bits
      first | rfl | (rw [if_pos (by omega), if_pos (by omega)]; go_simp; rfl) | (rw [if_pos (by omega)]; go_simp; rfl) | skip
    · have d0 := Ext.cell_some hxw d0
      have d1 := Ext.cell_some hxw d1
      have d2 := Ext.cell_some hxw d2
      clear hj
      go_simp
      try go_bits
      first | rfl | (rw [if_pos (by omega), if_pos (by omega)]; go_simp; rfl) | (rw [if_pos (by omega)]; go_simp; rfl) | skip
    · clear hj
      go_simp
      try go_bits
      rw [eql_pick, ← H6.out.2.2.2.2]
      exact ⟨Ext.refl _, rfl⟩
    · clear hj
      go_simp
      try go_bits
      first | rfl | (rw [if_pos (by omega), if_pos (by omega)]; go_simp; rfl) | (rw [if_pos (by omega)]; go_simp; rfl) | skip
    · clear hj
      go_simp
      try go_bits
      first | rfl | (rw [if_pos (by omega), if_pos (by omega)]; go_simp; rfl) | (rw [if_pos (by omega)]; go_simp; rfl) | skip
  case' hy_1_p =>
    intro vs w16 hy hk
    clear hk
    replace bc := Blk.ext bc hy
    replace bd := Blk.ext bd hy
    replace bx := Blk.ext bx hy
    replace hx := Ext.trans hx hy
    go_simp
  as_aux_lemma =>
  clear hy c0 c1 c2 d0 d1 d2 xa0 xa1 xa2 wa0 wa1 wa2 ya0 ya1 ya2 za0 za1 za2 la0 la1 la2 ma0 ma1 ma2 bw by' bz bl bm H2 H4 H5
  obtain ⟨t7, x7, y7, s7, b7, hq1, hq2, hq3, hq4, hq5⟩ := text_facts L1 W1 o1 (by unfold maxLen; omega)
  rw [← H6.out.2.2.2.1] at hq4
  subst hq4
  have H7 := Lib.hid (And.intro hq1 (And.intro hq2 (And.intro hq3 hq5)))
  clear hq1 hq2 hq3 hq5
  obtain ⟨c0, c1, c2, -, -, -⟩ := bc.c3
  go_wp2_with fail
  with_reducible refine (H7.out.1 _).mono ?_
  rintro e w17 ⟨rfl, hy⟩
  replace hx := hx.trans hy
  replace bc := bc.ext hy
  replace bd := bd.ext hy
  replace bx := bx.ext hy
  clear hy
  clear c0 c1 c2
  go_wp2_with fail
  with_reducible refine (H7.out.2.2.1 _ (HM.out.ext hx)).mono ?_
  rintro e w18 ⟨rfl, hy⟩
  replace hx := hx.trans hy
  replace bc := bc.ext hy
  replace bd := bd.ext hy
  replace bx := bx.ext hy
  clear hy
  have bn : Blk (w18.alloc (.cells #[.int .i64 x7, .int .i64 y7, .string s7] 25)) w18.heap.size #[.int .i64 x7, .int .i64 y7, .string s7] := by (repeat (first | (refine Blk.mk' ?_; (simp; done)) | apply Blk.old))
  replace bc := bc.old (o := (.cells #[.int .i64 x7, .int .i64 y7, .string s7] 25))
  replace bd := bd.old (o := (.cells #[.int .i64 x7, .int .i64 y7, .string s7] 25))
  replace bx := bx.old (o := (.cells #[.int .i64 x7, .int .i64 y7, .string s7] 25))
  replace hx := hx.trans (Ext.alloc w18 (.cells #[.int .i64 x7, .int .i64 y7, .string s7] 25))
  obtain ⟨c0, c1, c2, -, -, -⟩ := bc.c3
  obtain ⟨n0, n1, n2, -, -, -⟩ := bn.c3
  go_upto_region 22 with fail
  go_cut [223] (fun s223 wx => s223 = .bool false ∧ Ext (w18.alloc (.cells #[.int .i64 x7, .int .i64 y7, .string s7] 25)) wx)
  case first =>
    as_aux_lemma =>
    cases b7
    · go_wp2_with fail
      with_reducible refine (H7.out.2.1 _).mono ?_
      rintro e wr ⟨rfl, hya⟩
      replace c0 := hya.cell_some c0
      replace c1 := hya.cell_some c1
      replace c2 := hya.cell_some c2
      replace n0 := hya.cell_some n0
      replace n1 := hya.cell_some n1
      replace n2 := hya.cell_some n2
      go_wp2_with fail
      with_reducible refine (H6.out.2.1 _).mono ?_
      rintro e ws ⟨rfl, hyb⟩
      replace c0 := hyb.cell_some c0
      replace c1 := hyb.cell_some c1
      replace c2 := hyb.cell_some c2
      replace n0 := hyb.cell_some n0
      replace n1 := hyb.cell_some n1
      replace n2 := hyb.cell_some n2
      go_wp2
      go_meet
      exact ⟨rfl, hya.trans hyb⟩
    · obtain ⟨rfl, rfl, rfl⟩ := H7.out.2.2.2 (by first | rfl | trivial)
      go_wp2_with fail
      with_reducible refine (H7.out.2.1 _).mono ?_
      rintro e wr ⟨rfl, hya⟩
      replace c0 := hya.cell_some c0
      replace c1 := hya.cell_some c1
      replace c2 := hya.cell_some c2
      replace n0 := hya.cell_some n0
      replace n1 := hya.cell_some n1
      replace n2 := hya.cell_some n2
      go_wp2_with fail
      with_reducible refine (H6.out.2.1 _).mono ?_
      rintro e ws ⟨rfl, hyb⟩
      replace c0 := hyb.cell_some c0
      replace c1 := hyb.cell_some c1
      replace c2 := hyb.cell_some c2
      replace n0 := hyb.cell_some n0
      replace n1 := hyb.cell_some n1
      replace n2 := hyb.cell_some n2
      go_wp2
      go_meet
      exact ⟨rfl, hya.trans hyb⟩
  case rest =>
  as_aux_lemma =>
  obtain ⟨rfl, hy⟩ := hcut
  clear c0 c1 c2 n0 n1 n2 bn H6 H7
  replace hx := hx.trans hy
  replace bc := bc.ext hy
  replace bd := bd.ext hy
  replace bx := bx.ext hy
  clear hy
  have hlen : b4 = true → ((v4.size : Int) != (u4.size : Int)) = false := fun hb => by rw [H3.out.2.2 hb]; simp
  clear H3
  obtain ⟨wu, rfl⟩ : ∃ wu : World, wu = wc := ⟨_, rfl⟩
  go_upto_region 24 with fail
  go_cut [231] (fun s231 wx => s231 = .bool false ∧ wx = wu)
  case first =>
    cases b4
    · go_wp2
      go_meet
      exact ⟨rfl, rfl⟩
    · have hlen := hlen (by first | rfl | trivial)
      go_wp2
      go_meet
      exact ⟨rfl, rfl⟩
  case rest =>
  obtain ⟨rfl, rfl⟩ := hcut
  clear hlen
  cases b1
  · go_wp2
    go_ret
    exact ⟨rfl, hx⟩
  have hB := H1.out.2.2 (by first | rfl | trivial)
  obtain ⟨wA, rfl⟩ : ∃ wA : World, wA = wc := ⟨_, rfl⟩
  have hW := fun j hj => fourW_cell wA j hj
  replace bc := bc.old (o := (.cells #[.string ⟨#[97, 98, 98, 97, 98]⟩, .string ⟨#[97, 97, 98, 98, 97]⟩, .string ⟨#[98, 97, 98, 97, 98]⟩, .string ⟨#[98, 98, 98, 98, 98]⟩] 9))
  replace bd := bd.old (o := (.cells #[.string ⟨#[97, 98, 98, 97, 98]⟩, .string ⟨#[97, 97, 98, 98, 97]⟩, .string ⟨#[98, 97, 98, 97, 98]⟩, .string ⟨#[98, 98, 98, 98, 98]⟩] 9))
  replace bx := bx.old (o := (.cells #[.string ⟨#[97, 98, 98, 97, 98]⟩, .string ⟨#[97, 97, 98, 98, 97]⟩, .string ⟨#[98, 97, 98, 97, 98]⟩, .string ⟨#[98, 98, 98, 98, 98]⟩] 9))
  replace hx := hx.trans (Ext.alloc wA (.cells #[.string ⟨#[97, 98, 98, 97, 98]⟩, .string ⟨#[97, 97, 98, 98, 97]⟩, .string ⟨#[98, 97, 98, 97, 98]⟩, .string ⟨#[98, 98, 98, 98, 98]⟩] 9))
  have HB := Lib.hid (And.intro hB (And.intro hW (And.intro bc (And.intro bd bx))))
  clear hB hW bc bd bx H1
  as_aux_lemma =>
  go_wp2
  go_loopw [37, 38, 39, 40, 41, 42, 43, 44, 45, 46, 47, 48, 49, 236] (fun _ _ _ _ _ _ _ _ _ _ _ _ _ i wr => ∃ j : Nat, i = .int .i64 j ∧ j ≤ 4 ∧ Ext (wA.alloc (.cells #[.string ⟨#[97, 98, 98, 97, 98]⟩, .string ⟨#[97, 97, 98, 98, 97]⟩, .string ⟨#[98, 97, 98, 97, 98]⟩, .string ⟨#[98, 98, 98, 98, 98]⟩] 9)) wr) (fun _ _ _ _ _ _ _ _ _ _ _ _ _ i _ => 4 - (intOf i).toNat)
  case atStart => exact ⟨0, rfl, by omega, Ext.refl _⟩
  case round =>
    obtain ⟨j, rfl, hj, hxr⟩ := hrel
    by_cases hlt : j < 4
    · have hc := hxr.cell_some (HB.out.2.1 j hlt)
      obtain ⟨hu1, hu2⟩ := fourW_ok j
      obtain ⟨p, q, r, t, g1, g2, g3, g4, g5, g6⟩ := HB.out.1 _ hu1 hu2
      obtain ⟨U, hU⟩ : ∃ U, U = mkS (fourW j) := ⟨_, rfl⟩
      rw [← hU] at hc g1 g3 g4 g6
      have HG := Lib.hid (And.intro g1 (And.intro g2 (And.intro g3 (And.intro g4 (And.intro g5 g6)))))
      clear g1 g2 g3 g4 g5 g6 hU hu1 hu2
      obtain ⟨c0, c1, c2, -, -, -⟩ := (HB.out.2.2.1.ext hxr).c3
      obtain ⟨d0, d1, d2, -, -, -⟩ := (HB.out.2.2.2.1.ext hxr).c3
      obtain ⟨e0, e1, e2, -, -, -⟩ := (HB.out.2.2.2.2.ext hxr).c3
      go_wp2_with fail
      with_reducible refine (HG.out.1 _).mono ?_
      rintro e wa ⟨rfl, hy⟩
      replace hxr := hxr.trans hy
      replace hc := hy.cell_some hc
      replace c0 := hy.cell_some c0
      replace c1 := hy.cell_some c1
      replace c2 := hy.cell_some c2
      replace d0 := hy.cell_some d0
      replace d1 := hy.cell_some d1
      replace d2 := hy.cell_some d2
      replace e0 := hy.cell_some e0
      replace e1 := hy.cell_some e1
      replace e2 := hy.cell_some e2
      clear hy
      go_wp2_with fail
      with_reducible refine (HG.out.2.1 _).mono ?_
      rintro e wb ⟨rfl, hy⟩
      replace hxr := hxr.trans hy
      replace hc := hy.cell_some hc
      replace c0 := hy.cell_some c0
      replace c1 := hy.cell_some c1
      replace c2 := hy.cell_some c2
      replace d0 := hy.cell_some d0
      replace d1 := hy.cell_some d1
      replace d2 := hy.cell_some d2
      replace e0 := hy.cell_some e0
      replace e1 := hy.cell_some e1
      replace e2 := hy.cell_some e2
      clear hy
      go_wp2_with fail
      with_reducible refine (HG.out.2.2.1 _).mono ?_
      rintro e wd ⟨rfl, hy⟩
      replace hxr := hxr.trans hy
      replace hc := hy.cell_some hc
      replace c0 := hy.cell_some c0
      replace c1 := hy.cell_some c1
      replace c2 := hy.cell_some c2
      replace d0 := hy.cell_some d0
      replace d1 := hy.cell_some d1
      replace d2 := hy.cell_some d2
      replace e0 := hy.cell_some e0
      replace e1 := hy.cell_some e1
      replace e2 := hy.cell_some e2
      clear hy
      go_wp2_with fail
      with_reducible refine (HG.out.2.2.2.1 _).mono ?_
      rintro e we ⟨rfl, hy⟩
      replace hxr := hxr.trans hy
      replace hc := hy.cell_some hc
      replace c0 := hy.cell_some c0
      replace c1 := hy.cell_some c1
      replace c2 := hy.cell_some c2
      replace d0 := hy.cell_some d0
      replace d1 := hy.cell_some d1
      replace d2 := hy.cell_some d2
      replace e0 := hy.cell_some e0
      replace e1 := hy.cell_some e1
      replace e2 := hy.cell_some e2
      clear hy
      go_wp2_with fail
      with_reducible refine (HG.out.2.2.2.2.1 _).mono ?_
      rintro e wf ⟨rfl, hy⟩
      replace hxr := hxr.trans hy
      replace hc := hy.cell_some hc
      replace c0 := hy.cell_some c0
      replace c1 := hy.cell_some c1
      replace c2 := hy.cell_some c2
      replace d0 := hy.cell_some d0
      replace d1 := hy.cell_some d1
      replace d2 := hy.cell_some d2
      replace e0 := hy.cell_some e0
      replace e1 := hy.cell_some e1
      replace e2 := hy.cell_some e2
      clear hy
      go_wp2_with fail
      with_reducible refine (HG.out.2.2.2.2.2 _).mono ?_
      rintro e wg ⟨rfl, hy⟩
      replace hxr := hxr.trans hy
      clear hy HG hc c0 c1 c2 d0 d1 d2 e0 e1 e2
      go_wp2
      go_round
      case rel => exact ⟨j + 1, by go_num, by omega, hxr⟩
      case measure => simp [intOf]; omega
    · go_wp2
      go_ret
      exact ⟨rfl, hx.trans hxr⟩

set_option maxRecDepth 100000 in
set_option linter.unusedVariables false in
theorem fnCodes_lifted (os : Os) (started : os.Started) (H : Type) (enc : TypeId × Value → H) :
    ReturnsInHanded {} Tryz.checked os 3 .any (fun w args => (Rows.fnCodesSpec.pre enc Tryz.prog Tryz.f3 [] false w args ∧ laidMetH Tryz.prog Rows.fnCodesRow.laid w) ∧ sizedMet enc Tryz.prog Tryz.f3 (OpenSpec.ofChange Rows.fnCodesSpec) false w args) (Rows.fnCodesSpec.post enc Tryz.prog Tryz.f3 false true false false) := by
  refine handed_and_shaped (C := Tryz.checked) (X := fun w _ => laidMetH Tryz.prog Rows.fnCodesRow.laid w) (fun _ _ _ hh h => h.of_heap hh) own started (by kernel_rfl) Tryz.func3
    (ChangeSpec.witness_shaped (enc := enc) (C := Tryz.checked) (os := os) (X := fun w _ => laidMetH Tryz.prog Rows.fnCodesRow.laid w) false (World.laidAll Tryz.prog os Rows.fnCodesRow.laid) #[.slice none 0 0] 8 (World.laidAll_os _ _ _) (World.shaped_of_ZipB (by kernel_rfl) (by kernel_rfl)) (by kernel_rfl) (by kernel_rfl) (by kernel_rfl) (by rw [MakeChecks.laidMetH_plain _ _ _ (by kernel_rfl)]; exact laidMet_laidAll _ (by kernel_rfl) (by kernel_rfl))) ?_
  intro W base args ds gs before hval0 hW hcnd _ hL hsh _
  have hval : ∀ (j : Nat) t v, Tryz.f3.params[j]? = some t → args[j]? = some v → Value.okWide Tryz.prog W .any base t v := hval0
  have hW' := hW
  obtain ⟨p, q, hA0, hV, rfl, hfz, hnd⟩ := hW
  have hA : DataW.TrodAll enc Tryz.prog W 0 (fun _ => true) true Tryz.f3.params.toList args.toList ds p := hA0
  rw [Tryz.params3] at hA hval
  obtain ⟨v0, vs0, d0, ds0, p0, q0, hargs, rfl, rfl, h0, r0⟩ := trodAll_cons hA
  obtain ⟨rfl, rfl, rfl⟩ := trodAll_nil r0
  obtain rfl : args = #[v0] := by cases args; simp_all
  obtain ⟨rfl, rfl⟩ := trodVars_none hV
  have k0 := h0
  have lt0 : ∀ x ∈ p0, x.block < W.heap.size := by obtain ⟨m, hm⟩ := k0; exact DataW.trod_lt m _ _ _ hm
  obtain ⟨xs0, rd0⟩ := bytes_of_trod Tryz.underlying22 Tryz.underlying5 (by kernel_rfl) (hval 0 22 v0 rfl rfl) h0
  clear hA0 hval0
  refine (fnCodes_any v0 xs0 W rd0 ⟨MaxC.of6 hsh, tabC_of 2 hL (by rfl) (by rfl), errC_of 5 4 hL (by rfl) (by rfl) (by rfl)⟩).mono fun e W' ⟨he, bel⟩ => ?_
  subst he
  exact ⟨_, rfl, _, _, _, [], _, [], hW', trodAll_mk1 (shut_bool Tryz.underlying4 _), (trodAll_cons_mk (Below.trod laidOut (by kernel_rfl) (of_decide_eq_true (by kernel_rfl)) k0 bel lt0) trodAll_mk0), rfl, Below.frame bel _, fun h => by cases h⟩

theorem fnCodes_holds : Rows.FnCodesSaid :=
  OpenClaim.holds_of_wide 3 Tryz.f3 rfl rfl rfl rfl rfl rfl rfl ⟨rfl, rfl, rfl, rfl, rfl⟩ rfl rfl rfl rfl rfl (by kernel_rfl) Tryz.func3 (by kernel_rfl)
    (of_decide_eq_true (by kernel_rfl)) (by unfold Func.isWrapper; first | (rw [if_pos (by decide +kernel)]; kernel_rfl) | (rw [if_neg (by decide +kernel)]; exact ⟨rfl, rfl⟩))
    (fun os started H enc _ => fnCodes_lifted os started H enc)

theorem fnCodes_card : Rows.FnCodesCardSaid :=
  Claim7.holds_tied_plain_at .later [] [.data, .data, .data, .data, .sentinel, .sentinel, .pinned] true (true, "e3bac18199b9df45589cec61ed79e7754795fc844298054d6cd50257eb0ccd66") true
    fnCodes_holds (fun _ h => by cases h) (by kernel_rfl) (fun _ h => by cases h) fnCodes_row_tie rfl ⟨rfl, rfl⟩ (by kernel_rfl) rfl
    (fun f fn hf hfn => by
      obtain rfl : f = 3 := Option.some.inj ((show Tryz.prog.funcNamed "loop.example/g03103/laws.FnCodes" = some 3 by kernel_rfl).symm.trans hf) |>.symm
      obtain rfl : fn = Tryz.f3 := (Option.some.inj (Tryz.func3.symm.trans hfn)).symm
      exact ⟨by kernel_rfl, fun j t ht => by
        rw [Tryz.params3] at ht
        have hm : t ∈ [22] := by simpa using Array.mem_of_getElem? ht
        have hall : ([22].all fun u => !Tryz.prog.wantsStandIn u) = true := by kernel_rfl
        exact (show Tryz.prog.wantsStandIn t = false by simpa using List.all_eq_true.1 hall t hm)⟩)
    (by kernel_rfl)
end Go.Proofs.YtgaeeibcfoppbaaGreatDoor

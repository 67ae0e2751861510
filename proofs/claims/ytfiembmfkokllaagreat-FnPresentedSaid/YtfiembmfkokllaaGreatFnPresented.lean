/- For every code the law FnPresented returns true. No conditions. -/
import Derived.Test.YtfiembmfkokllaaGreatPrsJ
import Derived.Test.YtfiembmfkokllaaGreatPrsK
import Derived.Test.YtfiembmfkokllaaGreatPrsI
import Derived.Test.YtfiembmfkokllaaGreatMeetC
import Derived.Test.YtfiembmfkokllaaGreatShFi
import Derived.Test.YtfiembmfkokllaaGreatShGs
import Derived.Test.YtfiembmfkokllaaGreatShIr
import Derived.Test.YtfiembmfkokllaaGreatBig
import Derived.Test.YtfiembmfkokllaaGreatOpen
import Derived.Deep.DeepCutAuto
import Derived.HandedShaped
namespace Go.Proofs.YtfiembmfkokllaaGreat
open Go.ChangeShapes Go.WideShapes Go.ChangeAt Go.RowKit Go.Mx Go.Cm

theorem ShJ.parts {w : World} {B : Nat} {v : Value} (h : ShJ w B v) : ∃ (L : Int) (q : Option Addr) (n c : Nat) (F : List (List UInt8)), v = .agg #[.int .i64 L, .slice q n c] ∧ ReadsW w (.slice q n c) F ∧ ∀ f ∈ F, f.length ≤ maxLen := by
  obtain ⟨L, q, n, c, F, rfl, ho, hf⟩ := h
  exact ⟨L, q, n, c, F, rfl, Own.readsW ho, fun f hm => by have := hf f hm; unfold maxLen; omega⟩

theorem meet_short {L L' : Int} {F G X : List (List UInt8)} (h : meetO L F L' G = some X) (hF : ∀ f ∈ F, f.length ≤ maxLen) (hG : ∀ f ∈ G, f.length ≤ maxLen) : ∀ f ∈ X, f.length ≤ maxLen := by
  unfold meetO at h
  split at h
  · split at h
    · cases h
      intro f hf
      rcases (meetR_mem _).1 hf with h | h
      · exact hF f h
      · exact hG f h
    · cases h
  · cases h

set_option maxRecDepth 100000 in
set_option maxHeartbeats 40000000 in
theorem fnPresented_any (v : Value) (xs : List UInt8) (w : World) (h : ReadsB w v xs) (hm : MaxC w) :
    Calls Tryz.prog 3 #[v] w fun e w' => e = .returned (.bool true) ∧ Ext w w' := by
  have hx := Ext.refl w
  have HM := Lib.hid hm
  clear hm
  go_enter Tryz.func3, Tryz.ntmps3
  go_wp2_with fail
  with_reducible refine (laws_big_any v xs _ h).mono ?_
  rintro e w1 ⟨b, rfl, rfl⟩
  cases b
  rotate_left
  · go_wp2
    go_ret
    exact ⟨rfl, hx⟩
  go_wp2_with fail
  with_reducible refine (spec_DrawCountWords_any v xs _ h).mono ?_
  rintro e w1 ⟨u, nn, rfl, hu, hy⟩
  obtain ⟨L, q, n, cc, F, rfl, hS, hF⟩ := hu.parts
  clear hu
  have bx : Blk (w1.alloc (.cells #[.int .i64 L, .slice q n cc] 26)) w1.heap.size #[.int .i64 L, .slice q n cc] := by (repeat (first | (refine Blk.mk' ?_; (simp; done)) | apply Blk.old))
  replace hx := (hx.trans hy).trans (Ext.alloc w1 (.cells #[.int .i64 L, .slice q n cc] 26))
  replace hS := hS.ext (Ext.alloc w1 (.cells #[.int .i64 L, .slice q n cc] 26))
  have a1 := fun w h hm => impl_CountWords_any L nn (.slice q n cc) F w h hm hF
  have a2 := fun w h => spec_CountWords_any L nn (.slice q n cc) F w h hF
  have a3 := fun w h hm => impl_GraphOf_any L (.slice q n cc) F w h hm hF
  have a4 := fun w h => spec_GraphOf_any L (.slice q n cc) F w h hF
  have a5 := fun w h hm => impl_ForbiddenOf_any L (.slice q n cc) F w h hm hF
  have a6 := fun w h => spec_ForbiddenOf_any L (.slice q n cc) F w h hF
  have a7 := fun w h hm => impl_IsConnected_any L (.slice q n cc) F w h hm hF
  have a8 := fun w h => spec_IsConnected_any L (.slice q n cc) F w h hF
  obtain ⟨k, hk⟩ : ∃ k, k = cntW L F nn := ⟨_, rfl⟩
  obtain ⟨go, hgo⟩ : ∃ g, g = graphO L F := ⟨_, rfl⟩
  obtain ⟨fo, hfo⟩ : ∃ g, g = forbO L F := ⟨_, rfl⟩
  obtain ⟨fL, hfL⟩ : ∃ g, g = forbL L F := ⟨_, rfl⟩
  obtain ⟨cn, hcn⟩ : ∃ g, g = connB L F := ⟨_, rfl⟩
  rw [← hk] at a1 a2
  rw [← hgo] at a3 a4
  rw [← hfo, ← hfL] at a5 a6
  rw [← hcn] at a7 a8
  obtain ⟨gm, hgm⟩ : ∃ g, g = go.getD [] := ⟨_, rfl⟩
  obtain ⟨gb, hgb⟩ : ∃ g, g = go.isSome := ⟨_, rfl⟩
  obtain ⟨fm, hfm⟩ : ∃ g, g = fo.getD [] := ⟨_, rfl⟩
  obtain ⟨fb, hfb⟩ : ∃ g, g = fo.isSome := ⟨_, rfl⟩
  rw [← hgm, ← hgb] at a3 a4
  rw [← hfm, ← hfb] at a5 a6
  have HA := Lib.hid (And.intro a1 (And.intro a2 (And.intro a3 (And.intro a4 (And.intro a5 (And.intro a6 (And.intro a7 a8)))))))
  have HK := Lib.hid (And.intro hk (And.intro hgo (And.intro hfo (And.intro hfL (And.intro hgm (And.intro hgb (And.intro hfm (And.intro hfb hF))))))))
  clear a1 a2 a3 a4 a5 a6 a7 a8 hk hgo hfo hfL hcn hgm hgb hfm hfb hF hy
  obtain ⟨X, hX⟩ : ∃ X, X = w1.heap.size := ⟨_, rfl⟩
  rw [← hX] at bx
  have x0 := bx.d0
  have x1 := bx.d1
  clear bx
  go_upto_region 4 with fail
  rw [← hX]
  obtain ⟨w2, hw2⟩ : ∃ x, x = w1.alloc (.cells #[.int .i64 L, .slice q n cc] 26) := ⟨_, rfl⟩
  rw [← hw2] at hx hS x0 x1 ⊢
  clear hw2 hX
  go_wp2_with fail
  with_reducible refine (HA.out.1 _ hS (HM.out.ext hx)).mono ?_
  rintro e w3 ⟨rfl, hy⟩
  replace hx := hx.trans hy
  replace hS := hS.ext hy
  replace x0 := hy.cell_some x0
  replace x1 := hy.cell_some x1
  clear hy
  go_wp2_with fail
  with_reducible refine (HA.out.2.2.1 _ hS (HM.out.ext hx)).mono ?_
  rintro e w4 ⟨um, rfl, hr, hy⟩
  have hG := hr.reads
  replace hx := hx.trans hy
  replace hS := hS.ext hy
  replace x0 := hy.cell_some x0
  replace x1 := hy.cell_some x1
  clear hy hr
  go_wp2_with fail
  with_reducible refine (HA.out.2.2.2.1 _ hS).mono ?_
  rintro e w5 ⟨uw, rfl, hW, hy⟩
  replace hx := hx.trans hy
  replace hS := hS.ext hy
  replace hG := hG.ext hy
  replace x0 := hy.cell_some x0
  replace x1 := hy.cell_some x1
  clear hy
  go_wp2_with fail
  with_reducible refine (HA.out.2.2.2.2.1 _ hS (HM.out.ext hx)).mono ?_
  rintro e w6a ⟨z1, rfl, hz1, hy⟩
  obtain ⟨qz1, cz1, rfl⟩ := (Own.readsW hz1).slice
  replace hz1 := Own.readsW hz1
  replace hx := hx.trans hy
  replace hS := hS.ext hy
  replace hG := hG.ext hy
  replace hW := hW.ext hy
  replace x0 := hy.cell_some x0
  replace x1 := hy.cell_some x1
  clear hy
  obtain ⟨nz1, hnz1⟩ : ∃ x, x = fm.length := ⟨_, rfl⟩
  rw [← hnz1] at hz1 ⊢
  clear hnz1
  have bf : Blk (w6a.alloc (.cells #[.int .i64 fL, .slice qz1 nz1 cz1] 26)) w6a.heap.size #[.int .i64 fL, .slice qz1 nz1 cz1] := by (repeat (first | (refine Blk.mk' ?_; (simp; done)) | apply Blk.old))
  have hya := Ext.alloc w6a (.cells #[.int .i64 fL, .slice qz1 nz1 cz1] 26)
  replace hx := hx.trans hya
  replace hS := hS.ext hya
  replace hG := hG.ext hya
  replace hW := hW.ext hya
  replace hz1 := hz1.ext hya
  replace x0 := hya.cell_some x0
  replace x1 := hya.cell_some x1
  clear hya
  have bf0 := bf.d0
  have bf1 := bf.d1
  clear bf
  go_upto_region 8 with fail
  obtain ⟨X1, hX1⟩ : ∃ X, X = w6a.heap.size := ⟨_, rfl⟩
  obtain ⟨w6, hw6⟩ : ∃ x, x = (w6a.alloc (.cells #[.int .i64 fL, .slice qz1 nz1 cz1] 26)) := ⟨_, rfl⟩
  rw [← hw6] at hS hG hW hz1 x0 x1 bf0 bf1  hx ⊢
  rw [← hX1] at bf0 bf1 ⊢
  clear hw6 hX1
  go_wp2_with fail
  with_reducible refine (HA.out.2.2.2.2.2.1 _ hS).mono ?_
  rintro e w7a ⟨z2, rfl, hz2, hy⟩
  obtain ⟨qz2, cz2, rfl⟩ := (Own.readsW hz2).slice
  replace hz2 := Own.readsW hz2
  replace hx := hx.trans hy
  replace hS := hS.ext hy
  replace hG := hG.ext hy
  replace hW := hW.ext hy
  replace hz1 := hz1.ext hy
  replace x0 := hy.cell_some x0
  replace x1 := hy.cell_some x1
  replace bf0 := hy.cell_some bf0
  replace bf1 := hy.cell_some bf1
  clear hy
  obtain ⟨nz2, hnz2⟩ : ∃ x, x = fm.length := ⟨_, rfl⟩
  rw [← hnz2] at hz2 ⊢
  clear hnz2
  have bg : Blk (w7a.alloc (.cells #[.int .i64 fL, .slice qz2 nz2 cz2] 26)) w7a.heap.size #[.int .i64 fL, .slice qz2 nz2 cz2] := by (repeat (first | (refine Blk.mk' ?_; (simp; done)) | apply Blk.old))
  have hya := Ext.alloc w7a (.cells #[.int .i64 fL, .slice qz2 nz2 cz2] 26)
  replace hx := hx.trans hya
  replace hS := hS.ext hya
  replace hG := hG.ext hya
  replace hW := hW.ext hya
  replace hz1 := hz1.ext hya
  replace hz2 := hz2.ext hya
  replace x0 := hya.cell_some x0
  replace x1 := hya.cell_some x1
  replace bf0 := hya.cell_some bf0
  replace bf1 := hya.cell_some bf1
  clear hya
  have bg0 := bg.d0
  have bg1 := bg.d1
  clear bg
  go_upto_region 9 with fail
  obtain ⟨X2, hX2⟩ : ∃ X, X = w7a.heap.size := ⟨_, rfl⟩
  obtain ⟨w7, hw7⟩ : ∃ x, x = (w7a.alloc (.cells #[.int .i64 fL, .slice qz2 nz2 cz2] 26)) := ⟨_, rfl⟩
  rw [← hw7] at hS hG hW hz1 hz2 x0 x1 bf0 bf1 bg0 bg1  hx ⊢
  rw [← hX2] at bg0 bg1 ⊢
  clear hw7 hX2
  go_wp2_with fail
  with_reducible refine (spec_DrawAreSameShift_any v xs _ (h.ext hx)).mono ?_
  rintro e w8a ⟨u1, u2, rfl, hu1, hu2, hy⟩
  obtain ⟨L1, q1, n1, c1, F1, rfl, hS1, hF1⟩ := hu1.parts
  obtain ⟨L2, q2, n2, c2, F2, rfl, hS2, hF2⟩ := hu2.parts
  clear hu1 hu2
  replace hx := hx.trans hy
  replace hS := hS.ext hy
  replace hG := hG.ext hy
  replace hW := hW.ext hy
  replace hz1 := hz1.ext hy
  replace hz2 := hz2.ext hy
  replace x0 := hy.cell_some x0
  replace x1 := hy.cell_some x1
  replace bf0 := hy.cell_some bf0
  replace bf1 := hy.cell_some bf1
  replace bg0 := hy.cell_some bg0
  replace bg1 := hy.cell_some bg1
  clear hy
  have ba : Blk ((w8a.alloc (.cells #[.int .i64 L1, .slice q1 n1 c1] 26)).alloc (.cells #[.int .i64 L2, .slice q2 n2 c2] 26)) w8a.heap.size #[.int .i64 L1, .slice q1 n1 c1] := by (repeat (first | (refine Blk.mk' ?_; (simp; done)) | apply Blk.old))
  have bb : Blk ((w8a.alloc (.cells #[.int .i64 L1, .slice q1 n1 c1] 26)).alloc (.cells #[.int .i64 L2, .slice q2 n2 c2] 26)) (w8a.heap.size + 1) #[.int .i64 L2, .slice q2 n2 c2] := by (repeat (first | (refine Blk.mk' ?_; (simp; done)) | apply Blk.old))
  have hya := (Ext.alloc w8a (.cells #[.int .i64 L1, .slice q1 n1 c1] 26)).trans (Ext.alloc (w8a.alloc (.cells #[.int .i64 L1, .slice q1 n1 c1] 26)) (.cells #[.int .i64 L2, .slice q2 n2 c2] 26))
  replace hx := hx.trans hya
  replace hS := hS.ext hya
  replace hG := hG.ext hya
  replace hW := hW.ext hya
  replace hz1 := hz1.ext hya
  replace hz2 := hz2.ext hya
  replace hS1 := hS1.ext hya
  replace hS2 := hS2.ext hya
  replace x0 := hya.cell_some x0
  replace x1 := hya.cell_some x1
  replace bf0 := hya.cell_some bf0
  replace bf1 := hya.cell_some bf1
  replace bg0 := hya.cell_some bg0
  replace bg1 := hya.cell_some bg1
  clear hya
  have ba0 := ba.d0
  have ba1 := ba.d1
  have bb0 := bb.d0
  have bb1 := bb.d1
  clear ba bb
  have b1 := fun w h h' => impl_MeetShifts_any L1 L2 (.slice q1 n1 c1) (.slice q2 n2 c2) F1 F2 w h h' hF1 hF2
  have b2 := fun w h h' => spec_MeetShifts_any L1 L2 (.slice q1 n1 c1) (.slice q2 n2 c2) F1 F2 w h h' hF1 hF2
  have b3 := fun w h h' hm => impl_AreSameShift_any L1 L2 (.slice q1 n1 c1) (.slice q2 n2 c2) F1 F2 w h h' hm hF1 hF2
  have b4 := fun w h h' => spec_AreSameShift_any L1 L2 (.slice q1 n1 c1) (.slice q2 n2 c2) F1 F2 w h h' hF1 hF2
  obtain ⟨mo, hmo⟩ : ∃ g, g = meetO L1 F1 L2 F2 := ⟨_, rfl⟩
  obtain ⟨mL, hmL⟩ : ∃ g, g = meetL L1 F1 L2 F2 := ⟨_, rfl⟩
  obtain ⟨ss, hss⟩ : ∃ g, g = sameSh L1 F1 L2 F2 := ⟨_, rfl⟩
  rw [← hmo, ← hmL] at b1 b2
  rw [← hss] at b3 b4
  obtain ⟨mm, hmm⟩ : ∃ g, g = mo.getD [] := ⟨_, rfl⟩
  obtain ⟨mb, hmb⟩ : ∃ g, g = mo.isSome := ⟨_, rfl⟩
  rw [← hmm, ← hmb] at b1 b2
  have HB := Lib.hid (And.intro b1 (And.intro b2 (And.intro b3 b4)))
  have HQ := Lib.hid (And.intro hmo (And.intro hmL (And.intro hmm (And.intro hmb (And.intro hF1 hF2)))))
  clear b1 b2 b3 b4 hmo hmL hss hmm hmb hF1 hF2
  go_upto_region 10 with fail
  obtain ⟨XA, hXA⟩ : ∃ X, X = w8a.heap.size := ⟨_, rfl⟩
  obtain ⟨XB, hXB⟩ : ∃ X, X = w8a.heap.size + 1 := ⟨_, rfl⟩
  obtain ⟨w8, hw8⟩ : ∃ x, x = ((w8a.alloc (.cells #[.int .i64 L1, .slice q1 n1 c1] 26)).alloc (.cells #[.int .i64 L2, .slice q2 n2 c2] 26)) := ⟨_, rfl⟩
  rw [← hw8] at hS hG hW hz1 hz2 hS1 hS2 x0 x1 bf0 bf1 bg0 bg1 ba0 ba1 bb0 bb1 hx ⊢
  rw [← hXB] at bb0 bb1 ⊢
  rw [← hXA] at ba0 ba1 ⊢
  clear hw8 hXA hXB
  go_wp2_with fail
  with_reducible refine (HB.out.1 _ hS1 hS2).mono ?_
  rintro e w9a ⟨z3, rfl, hz3, hy⟩
  obtain ⟨qz3, cz3, rfl⟩ := (Own.readsW hz3).slice
  replace hz3 := Own.readsW hz3
  replace hx := hx.trans hy
  replace hS := hS.ext hy
  replace hG := hG.ext hy
  replace hW := hW.ext hy
  replace hz1 := hz1.ext hy
  replace hz2 := hz2.ext hy
  replace hS1 := hS1.ext hy
  replace hS2 := hS2.ext hy
  replace x0 := hy.cell_some x0
  replace x1 := hy.cell_some x1
  replace bf0 := hy.cell_some bf0
  replace bf1 := hy.cell_some bf1
  replace bg0 := hy.cell_some bg0
  replace bg1 := hy.cell_some bg1
  replace ba0 := hy.cell_some ba0
  replace ba1 := hy.cell_some ba1
  replace bb0 := hy.cell_some bb0
  replace bb1 := hy.cell_some bb1
  clear hy
  obtain ⟨nz3, hnz3⟩ : ∃ x, x = mm.length := ⟨_, rfl⟩
  rw [← hnz3] at hz3 ⊢
  clear hnz3
  have bm : Blk (w9a.alloc (.cells #[.int .i64 mL, .slice qz3 nz3 cz3] 26)) w9a.heap.size #[.int .i64 mL, .slice qz3 nz3 cz3] := by (repeat (first | (refine Blk.mk' ?_; (simp; done)) | apply Blk.old))
  have hya := Ext.alloc w9a (.cells #[.int .i64 mL, .slice qz3 nz3 cz3] 26)
  replace hx := hx.trans hya
  replace hS := hS.ext hya
  replace hG := hG.ext hya
  replace hW := hW.ext hya
  replace hz1 := hz1.ext hya
  replace hz2 := hz2.ext hya
  replace hS1 := hS1.ext hya
  replace hS2 := hS2.ext hya
  replace hz3 := hz3.ext hya
  replace x0 := hya.cell_some x0
  replace x1 := hya.cell_some x1
  replace bf0 := hya.cell_some bf0
  replace bf1 := hya.cell_some bf1
  replace bg0 := hya.cell_some bg0
  replace bg1 := hya.cell_some bg1
  replace ba0 := hya.cell_some ba0
  replace ba1 := hya.cell_some ba1
  replace bb0 := hya.cell_some bb0
  replace bb1 := hya.cell_some bb1
  clear hya
  have bm0 := bm.d0
  have bm1 := bm.d1
  clear bm
  go_upto_region 11 with fail
  obtain ⟨X3, hX3⟩ : ∃ X, X = w9a.heap.size := ⟨_, rfl⟩
  obtain ⟨w9, hw9⟩ : ∃ x, x = (w9a.alloc (.cells #[.int .i64 mL, .slice qz3 nz3 cz3] 26)) := ⟨_, rfl⟩
  rw [← hw9] at hS hG hW hz1 hz2 hS1 hS2 hz3 x0 x1 bf0 bf1 bg0 bg1 ba0 ba1 bb0 bb1 bm0 bm1  hx ⊢
  rw [← hX3] at bm0 bm1 ⊢
  clear hw9 hX3
  go_wp2_with fail
  with_reducible refine (HB.out.2.1 _ hS1 hS2).mono ?_
  rintro e w10a ⟨z4, rfl, hz4, hy⟩
  obtain ⟨qz4, cz4, rfl⟩ := (Own.readsW hz4).slice
  replace hz4 := Own.readsW hz4
  replace hx := hx.trans hy
  replace hS := hS.ext hy
  replace hG := hG.ext hy
  replace hW := hW.ext hy
  replace hz1 := hz1.ext hy
  replace hz2 := hz2.ext hy
  replace hS1 := hS1.ext hy
  replace hS2 := hS2.ext hy
  replace hz3 := hz3.ext hy
  replace x0 := hy.cell_some x0
  replace x1 := hy.cell_some x1
  replace bf0 := hy.cell_some bf0
  replace bf1 := hy.cell_some bf1
  replace bg0 := hy.cell_some bg0
  replace bg1 := hy.cell_some bg1
  replace ba0 := hy.cell_some ba0
  replace ba1 := hy.cell_some ba1
  replace bb0 := hy.cell_some bb0
  replace bb1 := hy.cell_some bb1
  replace bm0 := hy.cell_some bm0
  replace bm1 := hy.cell_some bm1
  clear hy
  obtain ⟨nz4, hnz4⟩ : ∃ x, x = mm.length := ⟨_, rfl⟩
  rw [← hnz4] at hz4 ⊢
  clear hnz4
  have bn : Blk (w10a.alloc (.cells #[.int .i64 mL, .slice qz4 nz4 cz4] 26)) w10a.heap.size #[.int .i64 mL, .slice qz4 nz4 cz4] := by (repeat (first | (refine Blk.mk' ?_; (simp; done)) | apply Blk.old))
  have hya := Ext.alloc w10a (.cells #[.int .i64 mL, .slice qz4 nz4 cz4] 26)
  replace hx := hx.trans hya
  replace hS := hS.ext hya
  replace hG := hG.ext hya
  replace hW := hW.ext hya
  replace hz1 := hz1.ext hya
  replace hz2 := hz2.ext hya
  replace hS1 := hS1.ext hya
  replace hS2 := hS2.ext hya
  replace hz3 := hz3.ext hya
  replace hz4 := hz4.ext hya
  replace x0 := hya.cell_some x0
  replace x1 := hya.cell_some x1
  replace bf0 := hya.cell_some bf0
  replace bf1 := hya.cell_some bf1
  replace bg0 := hya.cell_some bg0
  replace bg1 := hya.cell_some bg1
  replace ba0 := hya.cell_some ba0
  replace ba1 := hya.cell_some ba1
  replace bb0 := hya.cell_some bb0
  replace bb1 := hya.cell_some bb1
  replace bm0 := hya.cell_some bm0
  replace bm1 := hya.cell_some bm1
  clear hya
  have bn0 := bn.d0
  have bn1 := bn.d1
  clear bn
  go_upto_region 12 with fail
  obtain ⟨X4, hX4⟩ : ∃ X, X = w10a.heap.size := ⟨_, rfl⟩
  obtain ⟨w10, hw10⟩ : ∃ x, x = (w10a.alloc (.cells #[.int .i64 mL, .slice qz4 nz4 cz4] 26)) := ⟨_, rfl⟩
  rw [← hw10] at hS hG hW hz1 hz2 hS1 hS2 hz3 hz4 x0 x1 bf0 bf1 bg0 bg1 ba0 ba1 bb0 bb1 bm0 bm1 bn0 bn1  hx ⊢
  rw [← hX4] at bn0 bn1 ⊢
  clear hw10 hX4
  have a9 := fun w h hm => impl_StatesOf_any L (.slice q n cc) F w h hm HK.out.2.2.2.2.2.2.2.2
  have a10 := fun w h => spec_StatesOf_any L (.slice q n cc) F w h HK.out.2.2.2.2.2.2.2.2
  obtain ⟨st, hst⟩ : ∃ g, g = langOf L F 2 := ⟨_, rfl⟩
  rw [← hst] at a9 a10
  have HT := Lib.hid (And.intro a9 (And.intro a10 hst))
  clear a9 a10 hst
  go_wp2_with fail
  refine wp_region_inv (by kernel_rfl) (.known ?hy_1_v0 :: .known ?hy_1_v1 :: .known ?hy_1_v2 :: .known (.int .i64 k) :: .known (.bool false) :: .known ?hy_1_v5 :: .known ?hy_1_v6 :: .known ?hy_1_v7 :: .known (.bool false) :: .known ?hy_1_v9 :: .known ?hy_1_v10 :: .known ?hy_1_v11 :: .known ?hy_1_v12 :: .known (.bool true) :: .known ?hy_1_v14 :: .known ?hy_1_v15 :: .known ?hy_1_v16 :: .known ?hy_1_v17 :: .known ?hy_1_v18 :: .known (.bool false) :: .known ?hy_1_v20 :: .known ?hy_1_v21 :: .known ?hy_1_v22 :: .known ?hy_1_v23 :: .known (.bool true) :: .known ?hy_1_v25 :: .known ?hy_1_v26 :: .known ?hy_1_v27 :: .known ?hy_1_v28 :: .known ?hy_1_v29 :: .known (.bool ss) :: .known ?hy_1_v31 :: .known ?hy_1_v32 :: .known (.bool ss) :: .known (.bool false) :: .known ?hy_1_v35 :: .known ?hy_1_v36 :: .known ?hy_1_v37 :: .known ?hy_1_v38 :: .known (.bool false) :: .known ?hy_1_v40 :: .known ?hy_1_v41 :: .known ?hy_1_v42 :: .known ?hy_1_v43 :: .known (.bool true) :: .known ?hy_1_v45 :: .known ?hy_1_v46 :: .known ?hy_1_v47 :: .known ?hy_1_v48 :: .known (.bool cn) :: .known ?hy_1_v50 :: .known (.bool cn) :: .known (.bool false) :: .known ?hy_1_v53 :: .known ?hy_1_v54 :: .known ?hy_1_v55 :: .such (WJ st) (WJ.ok _) :: .known ?hy_1_v57 :: .such (WJ st) (WJ.ok _) :: .known (.bool true) :: .known ?hy_1_v60 :: .known ?hy_1_v61 :: []) rfl (by kernel_rfl) ?hy_1_s ?hy_1_p
  case hy_1_s =>
    intro vs
    refine ⟨fun w' hxw hj => ?_, fun w' hxw hj => ?_, fun w' hxw hj => ?_, fun w' hxw hj => ?_, fun w' hxw hj => ?_, fun w' hxw hj => ?_, fun w' hxw hj => ?_, fun w' hxw hj => ?_, fun w' hxw hj => ?_, fun w' hxw hj => ?_, fun w' hxw hj => ?_, fun w' hxw hj => ?_, fun w' hxw hj => ?_, fun w' hxw hj => ?_, fun w' hxw hj => ?_, fun w' hxw hj => ?_, fun w' hxw hj => ?_, fun w' hxw hj => ?_, fun w' hxw hj => ?_, fun w' hxw hj => ?_, fun w' hxw hj => ?_, fun w' hxw hj => ?_, fun w' hxw hj => ?_, fun w' hxw hj => ?_, fun w' hxw hj => ?_, fun w' hxw hj => ?_, fun w' hxw hj => ?_, fun w' hxw hj => ?_, fun w' hxw hj => ?_, fun w' hxw hj => ?_, fun w' hxw hj => ?_, fun w' hxw hj => ?_, fun w' hxw hj => ?_, fun w' hxw hj => ?_, fun w' hxw hj => ?_, fun w' hxw hj => ?_, fun w' hxw hj => ?_, fun w' hxw hj => ?_, fun w' hxw hj => ?_, fun w' hxw hj => ?_, fun w' hxw hj => ?_, fun w' hxw hj => ?_, fun w' hxw hj => ?_, fun w' hxw hj => ?_, fun w' hxw hj => ?_, fun w' hxw hj => ?_, fun w' hxw hj => ?_, fun w' hxw hj => ?_, fun w' hxw hj => ?_, fun w' hxw hj => ?_, fun w' hxw hj => ?_, fun w' hxw hj => ?_, fun w' hxw hj => ?_, fun w' hxw hj => ?_, fun w' hxw hj => ?_, fun w' hxw hj => ?_, fun w' hxw hj => ?_, fun w' hxw hj => ?_, fun w' hxw hj => ?_, fun w' hxw hj => ?_, fun w' hxw hj => ?_, fun w' hxw hj => ?_, trivial⟩
    · have x0 := Ext.cell_some hxw x0
      have x1 := Ext.cell_some hxw x1
      have bf0 := Ext.cell_some hxw bf0
      have bf1 := Ext.cell_some hxw bf1
      have bg0 := Ext.cell_some hxw bg0
      have bg1 := Ext.cell_some hxw bg1
      have ba0 := Ext.cell_some hxw ba0
      have ba1 := Ext.cell_some hxw ba1
      have bb0 := Ext.cell_some hxw bb0
      have bb1 := Ext.cell_some hxw bb1
      have bm0 := Ext.cell_some hxw bm0
      have bm1 := Ext.cell_some hxw bm1
      have bn0 := Ext.cell_some hxw bn0
      have bn1 := Ext.cell_some hxw bn1
      clear hj
      go_simp
      try go_bits
      first | rfl | (rw [if_pos (by omega), if_pos (by omega)]; go_simp; rfl) | (rw [if_pos (by omega)]; go_simp; rfl) | skip
    · have x0 := Ext.cell_some hxw x0
      have x1 := Ext.cell_some hxw x1
      have bf0 := Ext.cell_some hxw bf0
      have bf1 := Ext.cell_some hxw bf1
      have bg0 := Ext.cell_some hxw bg0
      have bg1 := Ext.cell_some hxw bg1
      have ba0 := Ext.cell_some hxw ba0
      have ba1 := Ext.cell_some hxw ba1
      have bb0 := Ext.cell_some hxw bb0
      have bb1 := Ext.cell_some hxw bb1
      have bm0 := Ext.cell_some hxw bm0
      have bm1 := Ext.cell_some hxw bm1
      have bn0 := Ext.cell_some hxw bn0
      have bn1 := Ext.cell_some hxw bn1
      clear hj
      go_simp
      try go_bits
      first | rfl | (rw [if_pos (by omega), if_pos (by omega)]; go_simp; rfl) | (rw [if_pos (by omega)]; go_simp; rfl) | skip
    · have x0 := Ext.cell_some hxw x0
      have x1 := Ext.cell_some hxw x1
      have bf0 := Ext.cell_some hxw bf0
      have bf1 := Ext.cell_some hxw bf1
      have bg0 := Ext.cell_some hxw bg0
      have bg1 := Ext.cell_some hxw bg1
      have ba0 := Ext.cell_some hxw ba0
      have ba1 := Ext.cell_some hxw ba1
      have bb0 := Ext.cell_some hxw bb0
      have bb1 := Ext.cell_some hxw bb1
      have bm0 := Ext.cell_some hxw bm0
      have bm1 := Ext.cell_some hxw bm1
      have bn0 := Ext.cell_some hxw bn0
      have bn1 := Ext.cell_some hxw bn1
      clear hj
      go_simp
      try go_bits
      first | rfl | (rw [if_pos (by omega), if_pos (by omega)]; go_simp; rfl) | (rw [if_pos (by omega)]; go_simp; rfl) | skip
    · have x0 := Ext.cell_some hxw x0
      have x1 := Ext.cell_some hxw x1
      have bf0 := Ext.cell_some hxw bf0
      have bf1 := Ext.cell_some hxw bf1
      have bg0 := Ext.cell_some hxw bg0
      have bg1 := Ext.cell_some hxw bg1
      have ba0 := Ext.cell_some hxw ba0
      have ba1 := Ext.cell_some hxw ba1
      have bb0 := Ext.cell_some hxw bb0
      have bb1 := Ext.cell_some hxw bb1
      have bm0 := Ext.cell_some hxw bm0
      have bm1 := Ext.cell_some hxw bm1
      have bn0 := Ext.cell_some hxw bn0
      have bn1 := Ext.cell_some hxw bn1
      clear hj
      go_simp
      try go_bits
      exact HA.out.2.1 _ (hS.ext hxw)
    · have x0 := Ext.cell_some hxw x0
      have x1 := Ext.cell_some hxw x1
      have bf0 := Ext.cell_some hxw bf0
      have bf1 := Ext.cell_some hxw bf1
      have bg0 := Ext.cell_some hxw bg0
      have bg1 := Ext.cell_some hxw bg1
      have ba0 := Ext.cell_some hxw ba0
      have ba1 := Ext.cell_some hxw ba1
      have bb0 := Ext.cell_some hxw bb0
      have bb1 := Ext.cell_some hxw bb1
      have bm0 := Ext.cell_some hxw bm0
      have bm1 := Ext.cell_some hxw bm1
      have bn0 := Ext.cell_some hxw bn0
      have bn1 := Ext.cell_some hxw bn1
      clear hj
      go_simp
      try go_bits
      (try simp)
    · have x0 := Ext.cell_some hxw x0
      have x1 := Ext.cell_some hxw x1
      have bf0 := Ext.cell_some hxw bf0
      have bf1 := Ext.cell_some hxw bf1
      have bg0 := Ext.cell_some hxw bg0
      have bg1 := Ext.cell_some hxw bg1
      have ba0 := Ext.cell_some hxw ba0
      have ba1 := Ext.cell_some hxw ba1
      have bb0 := Ext.cell_some hxw bb0
      have bb1 := Ext.cell_some hxw bb1
      have bm0 := Ext.cell_some hxw bm0
      have bm1 := Ext.cell_some hxw bm1
      have bn0 := Ext.cell_some hxw bn0
      have bn1 := Ext.cell_some hxw bn1
      clear hj
      go_simp
      try go_bits
      first | rfl | (rw [if_pos (by omega), if_pos (by omega)]; go_simp; rfl) | (rw [if_pos (by omega)]; go_simp; rfl) | skip
    · have x0 := Ext.cell_some hxw x0
      have x1 := Ext.cell_some hxw x1
      have bf0 := Ext.cell_some hxw bf0
      have bf1 := Ext.cell_some hxw bf1
      have bg0 := Ext.cell_some hxw bg0
      have bg1 := Ext.cell_some hxw bg1
      have ba0 := Ext.cell_some hxw ba0
      have ba1 := Ext.cell_some hxw ba1
      have bb0 := Ext.cell_some hxw bb0
      have bb1 := Ext.cell_some hxw bb1
      have bm0 := Ext.cell_some hxw bm0
      have bm1 := Ext.cell_some hxw bm1
      have bn0 := Ext.cell_some hxw bn0
      have bn1 := Ext.cell_some hxw bn1
      clear hj
      go_simp
      try go_bits
      first | rfl | (rw [if_pos (by omega), if_pos (by omega)]; go_simp; rfl) | (rw [if_pos (by omega)]; go_simp; rfl) | skip
    · have x0 := Ext.cell_some hxw x0
      have x1 := Ext.cell_some hxw x1
      have bf0 := Ext.cell_some hxw bf0
      have bf1 := Ext.cell_some hxw bf1
      have bg0 := Ext.cell_some hxw bg0
      have bg1 := Ext.cell_some hxw bg1
      have ba0 := Ext.cell_some hxw ba0
      have ba1 := Ext.cell_some hxw ba1
      have bb0 := Ext.cell_some hxw bb0
      have bb1 := Ext.cell_some hxw bb1
      have bm0 := Ext.cell_some hxw bm0
      have bm1 := Ext.cell_some hxw bm1
      have bn0 := Ext.cell_some hxw bn0
      have bn1 := Ext.cell_some hxw bn1
      clear hj
      go_simp
      try go_bits
      first | rfl | (rw [if_pos (by omega), if_pos (by omega)]; go_simp; rfl) | (rw [if_pos (by omega)]; go_simp; rfl) | skip
    · have x0 := Ext.cell_some hxw x0
      have x1 := Ext.cell_some hxw x1
      have bf0 := Ext.cell_some hxw bf0
      have bf1 := Ext.cell_some hxw bf1
      have bg0 := Ext.cell_some hxw bg0
      have bg1 := Ext.cell_some hxw bg1
      have ba0 := Ext.cell_some hxw ba0
      have ba1 := Ext.cell_some hxw ba1
      have bb0 := Ext.cell_some hxw bb0
      have bb1 := Ext.cell_some hxw bb1
      have bm0 := Ext.cell_some hxw bm0
      have bm1 := Ext.cell_some hxw bm1
      have bn0 := Ext.cell_some hxw bn0
      have bn1 := Ext.cell_some hxw bn1
      clear hj
      go_simp
      try go_bits
      (try simp)
    · have x0 := Ext.cell_some hxw x0
      have x1 := Ext.cell_some hxw x1
      have bf0 := Ext.cell_some hxw bf0
      have bf1 := Ext.cell_some hxw bf1
      have bg0 := Ext.cell_some hxw bg0
      have bg1 := Ext.cell_some hxw bg1
      have ba0 := Ext.cell_some hxw ba0
      have ba1 := Ext.cell_some hxw ba1
      have bb0 := Ext.cell_some hxw bb0
      have bb1 := Ext.cell_some hxw bb1
      have bm0 := Ext.cell_some hxw bm0
      have bm1 := Ext.cell_some hxw bm1
      have bn0 := Ext.cell_some hxw bn0
      have bn1 := Ext.cell_some hxw bn1
      clear hj
      go_simp
      try go_bits
      first | rfl | (rw [if_pos (by omega), if_pos (by omega)]; go_simp; rfl) | (rw [if_pos (by omega)]; go_simp; rfl) | skip
    · have x0 := Ext.cell_some hxw x0
      have x1 := Ext.cell_some hxw x1
      have bf0 := Ext.cell_some hxw bf0
      have bf1 := Ext.cell_some hxw bf1
      have bg0 := Ext.cell_some hxw bg0
      have bg1 := Ext.cell_some hxw bg1
      have ba0 := Ext.cell_some hxw ba0
      have ba1 := Ext.cell_some hxw ba1
      have bb0 := Ext.cell_some hxw bb0
      have bb1 := Ext.cell_some hxw bb1
      have bm0 := Ext.cell_some hxw bm0
      have bm1 := Ext.cell_some hxw bm1
      have bn0 := Ext.cell_some hxw bn0
      have bn1 := Ext.cell_some hxw bn1
      clear hj
      go_simp
      try go_bits
      first | rfl | (rw [if_pos (by omega), if_pos (by omega)]; go_simp; rfl) | (rw [if_pos (by omega)]; go_simp; rfl) | skip
    · have x0 := Ext.cell_some hxw x0
      have x1 := Ext.cell_some hxw x1
      have bf0 := Ext.cell_some hxw bf0
      have bf1 := Ext.cell_some hxw bf1
      have bg0 := Ext.cell_some hxw bg0
      have bg1 := Ext.cell_some hxw bg1
      have ba0 := Ext.cell_some hxw ba0
      have ba1 := Ext.cell_some hxw ba1
      have bb0 := Ext.cell_some hxw bb0
      have bb1 := Ext.cell_some hxw bb1
      have bm0 := Ext.cell_some hxw bm0
      have bm1 := Ext.cell_some hxw bm1
      have bn0 := Ext.cell_some hxw bn0
      have bn1 := Ext.cell_some hxw bn1
      clear hj
      go_simp
      try go_bits
      first | rfl | (rw [if_pos (by omega), if_pos (by omega)]; go_simp; rfl) | (rw [if_pos (by omega)]; go_simp; rfl) | skip
    · have x0 := Ext.cell_some hxw x0
      have x1 := Ext.cell_some hxw x1
      have bf0 := Ext.cell_some hxw bf0
      have bf1 := Ext.cell_some hxw bf1
      have bg0 := Ext.cell_some hxw bg0
      have bg1 := Ext.cell_some hxw bg1
      have ba0 := Ext.cell_some hxw ba0
      have ba1 := Ext.cell_some hxw ba1
      have bb0 := Ext.cell_some hxw bb0
      have bb1 := Ext.cell_some hxw bb1
      have bm0 := Ext.cell_some hxw bm0
      have bm1 := Ext.cell_some hxw bm1
      have bn0 := Ext.cell_some hxw bn0
      have bn1 := Ext.cell_some hxw bn1
      clear hj
      go_simp
      try go_bits
      first | rfl | (rw [if_pos (by omega), if_pos (by omega)]; go_simp; rfl) | (rw [if_pos (by omega)]; go_simp; rfl) | skip
    · have x0 := Ext.cell_some hxw x0
      have x1 := Ext.cell_some hxw x1
      have bf0 := Ext.cell_some hxw bf0
      have bf1 := Ext.cell_some hxw bf1
      have bg0 := Ext.cell_some hxw bg0
      have bg1 := Ext.cell_some hxw bg1
      have ba0 := Ext.cell_some hxw ba0
      have ba1 := Ext.cell_some hxw ba1
      have bb0 := Ext.cell_some hxw bb0
      have bb1 := Ext.cell_some hxw bb1
      have bm0 := Ext.cell_some hxw bm0
      have bm1 := Ext.cell_some hxw bm1
      have bn0 := Ext.cell_some hxw bn0
      have bn1 := Ext.cell_some hxw bn1
      clear hj
      go_simp
      try go_bits
      exact laws_sameLists_same _ _ gm _ (hG.ext hxw) (hW.ext hxw)
    · have x0 := Ext.cell_some hxw x0
      have x1 := Ext.cell_some hxw x1
      have bf0 := Ext.cell_some hxw bf0
      have bf1 := Ext.cell_some hxw bf1
      have bg0 := Ext.cell_some hxw bg0
      have bg1 := Ext.cell_some hxw bg1
      have ba0 := Ext.cell_some hxw ba0
      have ba1 := Ext.cell_some hxw ba1
      have bb0 := Ext.cell_some hxw bb0
      have bb1 := Ext.cell_some hxw bb1
      have bm0 := Ext.cell_some hxw bm0
      have bm1 := Ext.cell_some hxw bm1
      have bn0 := Ext.cell_some hxw bn0
      have bn1 := Ext.cell_some hxw bn1
      clear hj
      go_simp
      try go_bits
      first | rfl | (rw [if_pos (by omega), if_pos (by omega)]; go_simp; rfl) | (rw [if_pos (by omega)]; go_simp; rfl) | skip
    · have x0 := Ext.cell_some hxw x0
      have x1 := Ext.cell_some hxw x1
      have bf0 := Ext.cell_some hxw bf0
      have bf1 := Ext.cell_some hxw bf1
      have bg0 := Ext.cell_some hxw bg0
      have bg1 := Ext.cell_some hxw bg1
      have ba0 := Ext.cell_some hxw ba0
      have ba1 := Ext.cell_some hxw ba1
      have bb0 := Ext.cell_some hxw bb0
      have bb1 := Ext.cell_some hxw bb1
      have bm0 := Ext.cell_some hxw bm0
      have bm1 := Ext.cell_some hxw bm1
      have bn0 := Ext.cell_some hxw bn0
      have bn1 := Ext.cell_some hxw bn1
      clear hj
      go_simp
      try go_bits
      first | rfl | (rw [if_pos (by omega), if_pos (by omega)]; go_simp; rfl) | (rw [if_pos (by omega)]; go_simp; rfl) | skip
    · have x0 := Ext.cell_some hxw x0
      have x1 := Ext.cell_some hxw x1
      have bf0 := Ext.cell_some hxw bf0
      have bf1 := Ext.cell_some hxw bf1
      have bg0 := Ext.cell_some hxw bg0
      have bg1 := Ext.cell_some hxw bg1
      have ba0 := Ext.cell_some hxw ba0
      have ba1 := Ext.cell_some hxw ba1
      have bb0 := Ext.cell_some hxw bb0
      have bb1 := Ext.cell_some hxw bb1
      have bm0 := Ext.cell_some hxw bm0
      have bm1 := Ext.cell_some hxw bm1
      have bn0 := Ext.cell_some hxw bn0
      have bn1 := Ext.cell_some hxw bn1
      clear hj
      go_simp
      try go_bits
      first | rfl | (rw [if_pos (by omega), if_pos (by omega)]; go_simp; rfl) | (rw [if_pos (by omega)]; go_simp; rfl) | skip
    · have x0 := Ext.cell_some hxw x0
      have x1 := Ext.cell_some hxw x1
      have bf0 := Ext.cell_some hxw bf0
      have bf1 := Ext.cell_some hxw bf1
      have bg0 := Ext.cell_some hxw bg0
      have bg1 := Ext.cell_some hxw bg1
      have ba0 := Ext.cell_some hxw ba0
      have ba1 := Ext.cell_some hxw ba1
      have bb0 := Ext.cell_some hxw bb0
      have bb1 := Ext.cell_some hxw bb1
      have bm0 := Ext.cell_some hxw bm0
      have bm1 := Ext.cell_some hxw bm1
      have bn0 := Ext.cell_some hxw bn0
      have bn1 := Ext.cell_some hxw bn1
      clear hj
      go_simp
      try go_bits
      first | rfl | (rw [if_pos (by omega), if_pos (by omega)]; go_simp; rfl) | (rw [if_pos (by omega)]; go_simp; rfl) | skip
    · have x0 := Ext.cell_some hxw x0
      have x1 := Ext.cell_some hxw x1
      have bf0 := Ext.cell_some hxw bf0
      have bf1 := Ext.cell_some hxw bf1
      have bg0 := Ext.cell_some hxw bg0
      have bg1 := Ext.cell_some hxw bg1
      have ba0 := Ext.cell_some hxw ba0
      have ba1 := Ext.cell_some hxw ba1
      have bb0 := Ext.cell_some hxw bb0
      have bb1 := Ext.cell_some hxw bb1
      have bm0 := Ext.cell_some hxw bm0
      have bm1 := Ext.cell_some hxw bm1
      have bn0 := Ext.cell_some hxw bn0
      have bn1 := Ext.cell_some hxw bn1
      clear hj
      go_simp
      try go_bits
      first | rfl | (rw [if_pos (by omega), if_pos (by omega)]; go_simp; rfl) | (rw [if_pos (by omega)]; go_simp; rfl) | skip
    · have x0 := Ext.cell_some hxw x0
      have x1 := Ext.cell_some hxw x1
      have bf0 := Ext.cell_some hxw bf0
      have bf1 := Ext.cell_some hxw bf1
      have bg0 := Ext.cell_some hxw bg0
      have bg1 := Ext.cell_some hxw bg1
      have ba0 := Ext.cell_some hxw ba0
      have ba1 := Ext.cell_some hxw ba1
      have bb0 := Ext.cell_some hxw bb0
      have bb1 := Ext.cell_some hxw bb1
      have bm0 := Ext.cell_some hxw bm0
      have bm1 := Ext.cell_some hxw bm1
      have bn0 := Ext.cell_some hxw bn0
      have bn1 := Ext.cell_some hxw bn1
      clear hj
      go_simp
      try go_bits
      (try simp)
    · have x0 := Ext.cell_some hxw x0
      have x1 := Ext.cell_some hxw x1
      have bf0 := Ext.cell_some hxw bf0
      have bf1 := Ext.cell_some hxw bf1
      have bg0 := Ext.cell_some hxw bg0
      have bg1 := Ext.cell_some hxw bg1
      have ba0 := Ext.cell_some hxw ba0
      have ba1 := Ext.cell_some hxw ba1
      have bb0 := Ext.cell_some hxw bb0
      have bb1 := Ext.cell_some hxw bb1
      have bm0 := Ext.cell_some hxw bm0
      have bm1 := Ext.cell_some hxw bm1
      have bn0 := Ext.cell_some hxw bn0
      have bn1 := Ext.cell_some hxw bn1
      clear hj
      go_simp
      try go_bits
      first | rfl | (rw [if_pos (by omega), if_pos (by omega)]; go_simp; rfl) | (rw [if_pos (by omega)]; go_simp; rfl) | skip
    · have x0 := Ext.cell_some hxw x0
      have x1 := Ext.cell_some hxw x1
      have bf0 := Ext.cell_some hxw bf0
      have bf1 := Ext.cell_some hxw bf1
      have bg0 := Ext.cell_some hxw bg0
      have bg1 := Ext.cell_some hxw bg1
      have ba0 := Ext.cell_some hxw ba0
      have ba1 := Ext.cell_some hxw ba1
      have bb0 := Ext.cell_some hxw bb0
      have bb1 := Ext.cell_some hxw bb1
      have bm0 := Ext.cell_some hxw bm0
      have bm1 := Ext.cell_some hxw bm1
      have bn0 := Ext.cell_some hxw bn0
      have bn1 := Ext.cell_some hxw bn1
      clear hj
      go_simp
      try go_bits
      first | rfl | (rw [if_pos (by omega), if_pos (by omega)]; go_simp; rfl) | (rw [if_pos (by omega)]; go_simp; rfl) | skip
    · have x0 := Ext.cell_some hxw x0
      have x1 := Ext.cell_some hxw x1
      have bf0 := Ext.cell_some hxw bf0
      have bf1 := Ext.cell_some hxw bf1
      have bg0 := Ext.cell_some hxw bg0
      have bg1 := Ext.cell_some hxw bg1
      have ba0 := Ext.cell_some hxw ba0
      have ba1 := Ext.cell_some hxw ba1
      have bb0 := Ext.cell_some hxw bb0
      have bb1 := Ext.cell_some hxw bb1
      have bm0 := Ext.cell_some hxw bm0
      have bm1 := Ext.cell_some hxw bm1
      have bn0 := Ext.cell_some hxw bn0
      have bn1 := Ext.cell_some hxw bn1
      clear hj
      go_simp
      try go_bits
      first | rfl | (rw [if_pos (by omega), if_pos (by omega)]; go_simp; rfl) | (rw [if_pos (by omega)]; go_simp; rfl) | skip
    · have x0 := Ext.cell_some hxw x0
      have x1 := Ext.cell_some hxw x1
      have bf0 := Ext.cell_some hxw bf0
      have bf1 := Ext.cell_some hxw bf1
      have bg0 := Ext.cell_some hxw bg0
      have bg1 := Ext.cell_some hxw bg1
      have ba0 := Ext.cell_some hxw ba0
      have ba1 := Ext.cell_some hxw ba1
      have bb0 := Ext.cell_some hxw bb0
      have bb1 := Ext.cell_some hxw bb1
      have bm0 := Ext.cell_some hxw bm0
      have bm1 := Ext.cell_some hxw bm1
      have bn0 := Ext.cell_some hxw bn0
      have bn1 := Ext.cell_some hxw bn1
      clear hj
      go_simp
      try go_bits
      first | rfl | (rw [if_pos (by omega), if_pos (by omega)]; go_simp; rfl) | (rw [if_pos (by omega)]; go_simp; rfl) | skip
    · have x0 := Ext.cell_some hxw x0
      have x1 := Ext.cell_some hxw x1
      have bf0 := Ext.cell_some hxw bf0
      have bf1 := Ext.cell_some hxw bf1
      have bg0 := Ext.cell_some hxw bg0
      have bg1 := Ext.cell_some hxw bg1
      have ba0 := Ext.cell_some hxw ba0
      have ba1 := Ext.cell_some hxw ba1
      have bb0 := Ext.cell_some hxw bb0
      have bb1 := Ext.cell_some hxw bb1
      have bm0 := Ext.cell_some hxw bm0
      have bm1 := Ext.cell_some hxw bm1
      have bn0 := Ext.cell_some hxw bn0
      have bn1 := Ext.cell_some hxw bn1
      clear hj
      go_simp
      try go_bits
      exact laws_sameShift_same fL _ _ fm _ (hz1.ext hxw) (hz2.ext hxw)
    · have x0 := Ext.cell_some hxw x0
      have x1 := Ext.cell_some hxw x1
      have bf0 := Ext.cell_some hxw bf0
      have bf1 := Ext.cell_some hxw bf1
      have bg0 := Ext.cell_some hxw bg0
      have bg1 := Ext.cell_some hxw bg1
      have ba0 := Ext.cell_some hxw ba0
      have ba1 := Ext.cell_some hxw ba1
      have bb0 := Ext.cell_some hxw bb0
      have bb1 := Ext.cell_some hxw bb1
      have bm0 := Ext.cell_some hxw bm0
      have bm1 := Ext.cell_some hxw bm1
      have bn0 := Ext.cell_some hxw bn0
      have bn1 := Ext.cell_some hxw bn1
      clear hj
      go_simp
      try go_bits
      first | rfl | (rw [if_pos (by omega), if_pos (by omega)]; go_simp; rfl) | (rw [if_pos (by omega)]; go_simp; rfl) | skip
    · have x0 := Ext.cell_some hxw x0
      have x1 := Ext.cell_some hxw x1
      have bf0 := Ext.cell_some hxw bf0
      have bf1 := Ext.cell_some hxw bf1
      have bg0 := Ext.cell_some hxw bg0
      have bg1 := Ext.cell_some hxw bg1
      have ba0 := Ext.cell_some hxw ba0
      have ba1 := Ext.cell_some hxw ba1
      have bb0 := Ext.cell_some hxw bb0
      have bb1 := Ext.cell_some hxw bb1
      have bm0 := Ext.cell_some hxw bm0
      have bm1 := Ext.cell_some hxw bm1
      have bn0 := Ext.cell_some hxw bn0
      have bn1 := Ext.cell_some hxw bn1
      clear hj
      go_simp
      try go_bits
      first | rfl | (rw [if_pos (by omega), if_pos (by omega)]; go_simp; rfl) | (rw [if_pos (by omega)]; go_simp; rfl) | skip
    · have x0 := Ext.cell_some hxw x0
      have x1 := Ext.cell_some hxw x1
      have bf0 := Ext.cell_some hxw bf0
      have bf1 := Ext.cell_some hxw bf1
      have bg0 := Ext.cell_some hxw bg0
      have bg1 := Ext.cell_some hxw bg1
      have ba0 := Ext.cell_some hxw ba0
      have ba1 := Ext.cell_some hxw ba1
      have bb0 := Ext.cell_some hxw bb0
      have bb1 := Ext.cell_some hxw bb1
      have bm0 := Ext.cell_some hxw bm0
      have bm1 := Ext.cell_some hxw bm1
      have bn0 := Ext.cell_some hxw bn0
      have bn1 := Ext.cell_some hxw bn1
      clear hj
      go_simp
      try go_bits
      first | rfl | (rw [if_pos (by omega), if_pos (by omega)]; go_simp; rfl) | (rw [if_pos (by omega)]; go_simp; rfl) | skip
    · have x0 := Ext.cell_some hxw x0
      have x1 := Ext.cell_some hxw x1
      have bf0 := Ext.cell_some hxw bf0
      have bf1 := Ext.cell_some hxw bf1
      have bg0 := Ext.cell_some hxw bg0
      have bg1 := Ext.cell_some hxw bg1
      have ba0 := Ext.cell_some hxw ba0
      have ba1 := Ext.cell_some hxw ba1
      have bb0 := Ext.cell_some hxw bb0
      have bb1 := Ext.cell_some hxw bb1
      have bm0 := Ext.cell_some hxw bm0
      have bm1 := Ext.cell_some hxw bm1
      have bn0 := Ext.cell_some hxw bn0
      have bn1 := Ext.cell_some hxw bn1
      clear hj
      go_simp
      try go_bits
      first | rfl | (rw [if_pos (by omega), if_pos (by omega)]; go_simp; rfl) | (rw [if_pos (by omega)]; go_simp; rfl) | skip
    · have x0 := Ext.cell_some hxw x0
      have x1 := Ext.cell_some hxw x1
      have bf0 := Ext.cell_some hxw bf0
      have bf1 := Ext.cell_some hxw bf1
      have bg0 := Ext.cell_some hxw bg0
      have bg1 := Ext.cell_some hxw bg1
      have ba0 := Ext.cell_some hxw ba0
      have ba1 := Ext.cell_some hxw ba1
      have bb0 := Ext.cell_some hxw bb0
      have bb1 := Ext.cell_some hxw bb1
      have bm0 := Ext.cell_some hxw bm0
      have bm1 := Ext.cell_some hxw bm1
      have bn0 := Ext.cell_some hxw bn0
      have bn1 := Ext.cell_some hxw bn1
      clear hj
      go_simp
      try go_bits
      first | rfl | (rw [if_pos (by omega), if_pos (by omega)]; go_simp; rfl) | (rw [if_pos (by omega)]; go_simp; rfl) | skip
    · have x0 := Ext.cell_some hxw x0
      have x1 := Ext.cell_some hxw x1
      have bf0 := Ext.cell_some hxw bf0
      have bf1 := Ext.cell_some hxw bf1
      have bg0 := Ext.cell_some hxw bg0
      have bg1 := Ext.cell_some hxw bg1
      have ba0 := Ext.cell_some hxw ba0
      have ba1 := Ext.cell_some hxw ba1
      have bb0 := Ext.cell_some hxw bb0
      have bb1 := Ext.cell_some hxw bb1
      have bm0 := Ext.cell_some hxw bm0
      have bm1 := Ext.cell_some hxw bm1
      have bn0 := Ext.cell_some hxw bn0
      have bn1 := Ext.cell_some hxw bn1
      clear hj
      go_simp
      try go_bits
      exact HB.out.2.2.1 _ (hS1.ext hxw) (hS2.ext hxw) (HM.out.ext (hx.trans hxw))
    · have x0 := Ext.cell_some hxw x0
      have x1 := Ext.cell_some hxw x1
      have bf0 := Ext.cell_some hxw bf0
      have bf1 := Ext.cell_some hxw bf1
      have bg0 := Ext.cell_some hxw bg0
      have bg1 := Ext.cell_some hxw bg1
      have ba0 := Ext.cell_some hxw ba0
      have ba1 := Ext.cell_some hxw ba1
      have bb0 := Ext.cell_some hxw bb0
      have bb1 := Ext.cell_some hxw bb1
      have bm0 := Ext.cell_some hxw bm0
      have bm1 := Ext.cell_some hxw bm1
      have bn0 := Ext.cell_some hxw bn0
      have bn1 := Ext.cell_some hxw bn1
      clear hj
      go_simp
      try go_bits
      first | rfl | (rw [if_pos (by omega), if_pos (by omega)]; go_simp; rfl) | (rw [if_pos (by omega)]; go_simp; rfl) | skip
    · have x0 := Ext.cell_some hxw x0
      have x1 := Ext.cell_some hxw x1
      have bf0 := Ext.cell_some hxw bf0
      have bf1 := Ext.cell_some hxw bf1
      have bg0 := Ext.cell_some hxw bg0
      have bg1 := Ext.cell_some hxw bg1
      have ba0 := Ext.cell_some hxw ba0
      have ba1 := Ext.cell_some hxw ba1
      have bb0 := Ext.cell_some hxw bb0
      have bb1 := Ext.cell_some hxw bb1
      have bm0 := Ext.cell_some hxw bm0
      have bm1 := Ext.cell_some hxw bm1
      have bn0 := Ext.cell_some hxw bn0
      have bn1 := Ext.cell_some hxw bn1
      clear hj
      go_simp
      try go_bits
      first | rfl | (rw [if_pos (by omega), if_pos (by omega)]; go_simp; rfl) | (rw [if_pos (by omega)]; go_simp; rfl) | skip
    · have x0 := Ext.cell_some hxw x0
      have x1 := Ext.cell_some hxw x1
      have bf0 := Ext.cell_some hxw bf0
      have bf1 := Ext.cell_some hxw bf1
      have bg0 := Ext.cell_some hxw bg0
      have bg1 := Ext.cell_some hxw bg1
      have ba0 := Ext.cell_some hxw ba0
      have ba1 := Ext.cell_some hxw ba1
      have bb0 := Ext.cell_some hxw bb0
      have bb1 := Ext.cell_some hxw bb1
      have bm0 := Ext.cell_some hxw bm0
      have bm1 := Ext.cell_some hxw bm1
      have bn0 := Ext.cell_some hxw bn0
      have bn1 := Ext.cell_some hxw bn1
      clear hj
      go_simp
      try go_bits
      exact HB.out.2.2.2 _ (hS1.ext hxw) (hS2.ext hxw)
    · have x0 := Ext.cell_some hxw x0
      have x1 := Ext.cell_some hxw x1
      have bf0 := Ext.cell_some hxw bf0
      have bf1 := Ext.cell_some hxw bf1
      have bg0 := Ext.cell_some hxw bg0
      have bg1 := Ext.cell_some hxw bg1
      have ba0 := Ext.cell_some hxw ba0
      have ba1 := Ext.cell_some hxw ba1
      have bb0 := Ext.cell_some hxw bb0
      have bb1 := Ext.cell_some hxw bb1
      have bm0 := Ext.cell_some hxw bm0
      have bm1 := Ext.cell_some hxw bm1
      have bn0 := Ext.cell_some hxw bn0
      have bn1 := Ext.cell_some hxw bn1
      clear hj
      go_simp
      try go_bits
      (try simp)
    · have x0 := Ext.cell_some hxw x0
      have x1 := Ext.cell_some hxw x1
      have bf0 := Ext.cell_some hxw bf0
      have bf1 := Ext.cell_some hxw bf1
      have bg0 := Ext.cell_some hxw bg0
      have bg1 := Ext.cell_some hxw bg1
      have ba0 := Ext.cell_some hxw ba0
      have ba1 := Ext.cell_some hxw ba1
      have bb0 := Ext.cell_some hxw bb0
      have bb1 := Ext.cell_some hxw bb1
      have bm0 := Ext.cell_some hxw bm0
      have bm1 := Ext.cell_some hxw bm1
      have bn0 := Ext.cell_some hxw bn0
      have bn1 := Ext.cell_some hxw bn1
      clear hj
      go_simp
      try go_bits
      first | rfl | (rw [if_pos (by omega), if_pos (by omega)]; go_simp; rfl) | (rw [if_pos (by omega)]; go_simp; rfl) | skip
    · have x0 := Ext.cell_some hxw x0
      have x1 := Ext.cell_some hxw x1
      have bf0 := Ext.cell_some hxw bf0
      have bf1 := Ext.cell_some hxw bf1
      have bg0 := Ext.cell_some hxw bg0
      have bg1 := Ext.cell_some hxw bg1
      have ba0 := Ext.cell_some hxw ba0
      have ba1 := Ext.cell_some hxw ba1
      have bb0 := Ext.cell_some hxw bb0
      have bb1 := Ext.cell_some hxw bb1
      have bm0 := Ext.cell_some hxw bm0
      have bm1 := Ext.cell_some hxw bm1
      have bn0 := Ext.cell_some hxw bn0
      have bn1 := Ext.cell_some hxw bn1
      clear hj
      go_simp
      try go_bits
      first | rfl | (rw [if_pos (by omega), if_pos (by omega)]; go_simp; rfl) | (rw [if_pos (by omega)]; go_simp; rfl) | skip
    · have x0 := Ext.cell_some hxw x0
      have x1 := Ext.cell_some hxw x1
      have bf0 := Ext.cell_some hxw bf0
      have bf1 := Ext.cell_some hxw bf1
      have bg0 := Ext.cell_some hxw bg0
      have bg1 := Ext.cell_some hxw bg1
      have ba0 := Ext.cell_some hxw ba0
      have ba1 := Ext.cell_some hxw ba1
      have bb0 := Ext.cell_some hxw bb0
      have bb1 := Ext.cell_some hxw bb1
      have bm0 := Ext.cell_some hxw bm0
      have bm1 := Ext.cell_some hxw bm1
      have bn0 := Ext.cell_some hxw bn0
      have bn1 := Ext.cell_some hxw bn1
      clear hj
      go_simp
      try go_bits
      first | rfl | (rw [if_pos (by omega), if_pos (by omega)]; go_simp; rfl) | (rw [if_pos (by omega)]; go_simp; rfl) | skip
    · have x0 := Ext.cell_some hxw x0
      have x1 := Ext.cell_some hxw x1
      have bf0 := Ext.cell_some hxw bf0
      have bf1 := Ext.cell_some hxw bf1
      have bg0 := Ext.cell_some hxw bg0
      have bg1 := Ext.cell_some hxw bg1
      have ba0 := Ext.cell_some hxw ba0
      have ba1 := Ext.cell_some hxw ba1
      have bb0 := Ext.cell_some hxw bb0
      have bb1 := Ext.cell_some hxw bb1
      have bm0 := Ext.cell_some hxw bm0
      have bm1 := Ext.cell_some hxw bm1
      have bn0 := Ext.cell_some hxw bn0
      have bn1 := Ext.cell_some hxw bn1
      clear hj
      go_simp
      try go_bits
      first | rfl | (rw [if_pos (by omega), if_pos (by omega)]; go_simp; rfl) | (rw [if_pos (by omega)]; go_simp; rfl) | skip
    · have x0 := Ext.cell_some hxw x0
      have x1 := Ext.cell_some hxw x1
      have bf0 := Ext.cell_some hxw bf0
      have bf1 := Ext.cell_some hxw bf1
      have bg0 := Ext.cell_some hxw bg0
      have bg1 := Ext.cell_some hxw bg1
      have ba0 := Ext.cell_some hxw ba0
      have ba1 := Ext.cell_some hxw ba1
      have bb0 := Ext.cell_some hxw bb0
      have bb1 := Ext.cell_some hxw bb1
      have bm0 := Ext.cell_some hxw bm0
      have bm1 := Ext.cell_some hxw bm1
      have bn0 := Ext.cell_some hxw bn0
      have bn1 := Ext.cell_some hxw bn1
      clear hj
      go_simp
      try go_bits
      (try simp)
    · have x0 := Ext.cell_some hxw x0
      have x1 := Ext.cell_some hxw x1
      have bf0 := Ext.cell_some hxw bf0
      have bf1 := Ext.cell_some hxw bf1
      have bg0 := Ext.cell_some hxw bg0
      have bg1 := Ext.cell_some hxw bg1
      have ba0 := Ext.cell_some hxw ba0
      have ba1 := Ext.cell_some hxw ba1
      have bb0 := Ext.cell_some hxw bb0
      have bb1 := Ext.cell_some hxw bb1
      have bm0 := Ext.cell_some hxw bm0
      have bm1 := Ext.cell_some hxw bm1
      have bn0 := Ext.cell_some hxw bn0
      have bn1 := Ext.cell_some hxw bn1
      clear hj
      go_simp
      try go_bits
      first | rfl | (rw [if_pos (by omega), if_pos (by omega)]; go_simp; rfl) | (rw [if_pos (by omega)]; go_simp; rfl) | skip
    · have x0 := Ext.cell_some hxw x0
      have x1 := Ext.cell_some hxw x1
      have bf0 := Ext.cell_some hxw bf0
      have bf1 := Ext.cell_some hxw bf1
      have bg0 := Ext.cell_some hxw bg0
      have bg1 := Ext.cell_some hxw bg1
      have ba0 := Ext.cell_some hxw ba0
      have ba1 := Ext.cell_some hxw ba1
      have bb0 := Ext.cell_some hxw bb0
      have bb1 := Ext.cell_some hxw bb1
      have bm0 := Ext.cell_some hxw bm0
      have bm1 := Ext.cell_some hxw bm1
      have bn0 := Ext.cell_some hxw bn0
      have bn1 := Ext.cell_some hxw bn1
      clear hj
      go_simp
      try go_bits
      first | rfl | (rw [if_pos (by omega), if_pos (by omega)]; go_simp; rfl) | (rw [if_pos (by omega)]; go_simp; rfl) | skip
    · have x0 := Ext.cell_some hxw x0
      have x1 := Ext.cell_some hxw x1
      have bf0 := Ext.cell_some hxw bf0
      have bf1 := Ext.cell_some hxw bf1
      have bg0 := Ext.cell_some hxw bg0
      have bg1 := Ext.cell_some hxw bg1
      have ba0 := Ext.cell_some hxw ba0
      have ba1 := Ext.cell_some hxw ba1
      have bb0 := Ext.cell_some hxw bb0
      have bb1 := Ext.cell_some hxw bb1
      have bm0 := Ext.cell_some hxw bm0
      have bm1 := Ext.cell_some hxw bm1
      have bn0 := Ext.cell_some hxw bn0
      have bn1 := Ext.cell_some hxw bn1
      clear hj
      go_simp
      try go_bits
      first | rfl | (rw [if_pos (by omega), if_pos (by omega)]; go_simp; rfl) | (rw [if_pos (by omega)]; go_simp; rfl) | skip
    · have x0 := Ext.cell_some hxw x0
      have x1 := Ext.cell_some hxw x1
      have bf0 := Ext.cell_some hxw bf0
      have bf1 := Ext.cell_some hxw bf1
      have bg0 := Ext.cell_some hxw bg0
      have bg1 := Ext.cell_some hxw bg1
      have ba0 := Ext.cell_some hxw ba0
      have ba1 := Ext.cell_some hxw ba1
      have bb0 := Ext.cell_some hxw bb0
      have bb1 := Ext.cell_some hxw bb1
      have bm0 := Ext.cell_some hxw bm0
      have bm1 := Ext.cell_some hxw bm1
      have bn0 := Ext.cell_some hxw bn0
      have bn1 := Ext.cell_some hxw bn1
      clear hj
      go_simp
      try go_bits
      first | rfl | (rw [if_pos (by omega), if_pos (by omega)]; go_simp; rfl) | (rw [if_pos (by omega)]; go_simp; rfl) | skip
    · have x0 := Ext.cell_some hxw x0
      have x1 := Ext.cell_some hxw x1
      have bf0 := Ext.cell_some hxw bf0
      have bf1 := Ext.cell_some hxw bf1
      have bg0 := Ext.cell_some hxw bg0
      have bg1 := Ext.cell_some hxw bg1
      have ba0 := Ext.cell_some hxw ba0
      have ba1 := Ext.cell_some hxw ba1
      have bb0 := Ext.cell_some hxw bb0
      have bb1 := Ext.cell_some hxw bb1
      have bm0 := Ext.cell_some hxw bm0
      have bm1 := Ext.cell_some hxw bm1
      have bn0 := Ext.cell_some hxw bn0
      have bn1 := Ext.cell_some hxw bn1
      clear hj
      go_simp
      try go_bits
      exact laws_sameShift_same mL _ _ mm _ (hz3.ext hxw) (hz4.ext hxw)
    · have x0 := Ext.cell_some hxw x0
      have x1 := Ext.cell_some hxw x1
      have bf0 := Ext.cell_some hxw bf0
      have bf1 := Ext.cell_some hxw bf1
      have bg0 := Ext.cell_some hxw bg0
      have bg1 := Ext.cell_some hxw bg1
      have ba0 := Ext.cell_some hxw ba0
      have ba1 := Ext.cell_some hxw ba1
      have bb0 := Ext.cell_some hxw bb0
      have bb1 := Ext.cell_some hxw bb1
      have bm0 := Ext.cell_some hxw bm0
      have bm1 := Ext.cell_some hxw bm1
      have bn0 := Ext.cell_some hxw bn0
      have bn1 := Ext.cell_some hxw bn1
      clear hj
      go_simp
      try go_bits
      first | rfl | (rw [if_pos (by omega), if_pos (by omega)]; go_simp; rfl) | (rw [if_pos (by omega)]; go_simp; rfl) | skip
    · have x0 := Ext.cell_some hxw x0
      have x1 := Ext.cell_some hxw x1
      have bf0 := Ext.cell_some hxw bf0
      have bf1 := Ext.cell_some hxw bf1
      have bg0 := Ext.cell_some hxw bg0
      have bg1 := Ext.cell_some hxw bg1
      have ba0 := Ext.cell_some hxw ba0
      have ba1 := Ext.cell_some hxw ba1
      have bb0 := Ext.cell_some hxw bb0
      have bb1 := Ext.cell_some hxw bb1
      have bm0 := Ext.cell_some hxw bm0
      have bm1 := Ext.cell_some hxw bm1
      have bn0 := Ext.cell_some hxw bn0
      have bn1 := Ext.cell_some hxw bn1
      clear hj
      go_simp
      try go_bits
      first | rfl | (rw [if_pos (by omega), if_pos (by omega)]; go_simp; rfl) | (rw [if_pos (by omega)]; go_simp; rfl) | skip
    · have x0 := Ext.cell_some hxw x0
      have x1 := Ext.cell_some hxw x1
      have bf0 := Ext.cell_some hxw bf0
      have bf1 := Ext.cell_some hxw bf1
      have bg0 := Ext.cell_some hxw bg0
      have bg1 := Ext.cell_some hxw bg1
      have ba0 := Ext.cell_some hxw ba0
      have ba1 := Ext.cell_some hxw ba1
      have bb0 := Ext.cell_some hxw bb0
      have bb1 := Ext.cell_some hxw bb1
      have bm0 := Ext.cell_some hxw bm0
      have bm1 := Ext.cell_some hxw bm1
      have bn0 := Ext.cell_some hxw bn0
      have bn1 := Ext.cell_some hxw bn1
      clear hj
      go_simp
      try go_bits
      first | rfl | (rw [if_pos (by omega), if_pos (by omega)]; go_simp; rfl) | (rw [if_pos (by omega)]; go_simp; rfl) | skip
    · have x0 := Ext.cell_some hxw x0
      have x1 := Ext.cell_some hxw x1
      have bf0 := Ext.cell_some hxw bf0
      have bf1 := Ext.cell_some hxw bf1
      have bg0 := Ext.cell_some hxw bg0
      have bg1 := Ext.cell_some hxw bg1
      have ba0 := Ext.cell_some hxw ba0
      have ba1 := Ext.cell_some hxw ba1
      have bb0 := Ext.cell_some hxw bb0
      have bb1 := Ext.cell_some hxw bb1
      have bm0 := Ext.cell_some hxw bm0
      have bm1 := Ext.cell_some hxw bm1
      have bn0 := Ext.cell_some hxw bn0
      have bn1 := Ext.cell_some hxw bn1
      clear hj
      go_simp
      try go_bits
      first | rfl | (rw [if_pos (by omega), if_pos (by omega)]; go_simp; rfl) | (rw [if_pos (by omega)]; go_simp; rfl) | skip
    · have x0 := Ext.cell_some hxw x0
      have x1 := Ext.cell_some hxw x1
      have bf0 := Ext.cell_some hxw bf0
      have bf1 := Ext.cell_some hxw bf1
      have bg0 := Ext.cell_some hxw bg0
      have bg1 := Ext.cell_some hxw bg1
      have ba0 := Ext.cell_some hxw ba0
      have ba1 := Ext.cell_some hxw ba1
      have bb0 := Ext.cell_some hxw bb0
      have bb1 := Ext.cell_some hxw bb1
      have bm0 := Ext.cell_some hxw bm0
      have bm1 := Ext.cell_some hxw bm1
      have bn0 := Ext.cell_some hxw bn0
      have bn1 := Ext.cell_some hxw bn1
      clear hj
      go_simp
      try go_bits
      exact HA.out.2.2.2.2.2.2.1 _ (hS.ext hxw) (HM.out.ext (hx.trans hxw))
    · have x0 := Ext.cell_some hxw x0
      have x1 := Ext.cell_some hxw x1
      have bf0 := Ext.cell_some hxw bf0
      have bf1 := Ext.cell_some hxw bf1
      have bg0 := Ext.cell_some hxw bg0
      have bg1 := Ext.cell_some hxw bg1
      have ba0 := Ext.cell_some hxw ba0
      have ba1 := Ext.cell_some hxw ba1
      have bb0 := Ext.cell_some hxw bb0
      have bb1 := Ext.cell_some hxw bb1
      have bm0 := Ext.cell_some hxw bm0
      have bm1 := Ext.cell_some hxw bm1
      have bn0 := Ext.cell_some hxw bn0
      have bn1 := Ext.cell_some hxw bn1
      clear hj
      go_simp
      try go_bits
      first | rfl | (rw [if_pos (by omega), if_pos (by omega)]; go_simp; rfl) | (rw [if_pos (by omega)]; go_simp; rfl) | skip
    · have x0 := Ext.cell_some hxw x0
      have x1 := Ext.cell_some hxw x1
      have bf0 := Ext.cell_some hxw bf0
      have bf1 := Ext.cell_some hxw bf1
      have bg0 := Ext.cell_some hxw bg0
      have bg1 := Ext.cell_some hxw bg1
      have ba0 := Ext.cell_some hxw ba0
      have ba1 := Ext.cell_some hxw ba1
      have bb0 := Ext.cell_some hxw bb0
      have bb1 := Ext.cell_some hxw bb1
      have bm0 := Ext.cell_some hxw bm0
      have bm1 := Ext.cell_some hxw bm1
      have bn0 := Ext.cell_some hxw bn0
      have bn1 := Ext.cell_some hxw bn1
      clear hj
      go_simp
      try go_bits
      exact HA.out.2.2.2.2.2.2.2 _ (hS.ext hxw)
    · have x0 := Ext.cell_some hxw x0
      have x1 := Ext.cell_some hxw x1
      have bf0 := Ext.cell_some hxw bf0
      have bf1 := Ext.cell_some hxw bf1
      have bg0 := Ext.cell_some hxw bg0
      have bg1 := Ext.cell_some hxw bg1
      have ba0 := Ext.cell_some hxw ba0
      have ba1 := Ext.cell_some hxw ba1
      have bb0 := Ext.cell_some hxw bb0
      have bb1 := Ext.cell_some hxw bb1
      have bm0 := Ext.cell_some hxw bm0
      have bm1 := Ext.cell_some hxw bm1
      have bn0 := Ext.cell_some hxw bn0
      have bn1 := Ext.cell_some hxw bn1
      clear hj
      go_simp
      try go_bits
      (try simp)
    · have x0 := Ext.cell_some hxw x0
      have x1 := Ext.cell_some hxw x1
      have bf0 := Ext.cell_some hxw bf0
      have bf1 := Ext.cell_some hxw bf1
      have bg0 := Ext.cell_some hxw bg0
      have bg1 := Ext.cell_some hxw bg1
      have ba0 := Ext.cell_some hxw ba0
      have ba1 := Ext.cell_some hxw ba1
      have bb0 := Ext.cell_some hxw bb0
      have bb1 := Ext.cell_some hxw bb1
      have bm0 := Ext.cell_some hxw bm0
      have bm1 := Ext.cell_some hxw bm1
      have bn0 := Ext.cell_some hxw bn0
      have bn1 := Ext.cell_some hxw bn1
      clear hj
      go_simp
      try go_bits
      first | rfl | (rw [if_pos (by omega), if_pos (by omega)]; go_simp; rfl) | (rw [if_pos (by omega)]; go_simp; rfl) | skip
    · have x0 := Ext.cell_some hxw x0
      have x1 := Ext.cell_some hxw x1
      have bf0 := Ext.cell_some hxw bf0
      have bf1 := Ext.cell_some hxw bf1
      have bg0 := Ext.cell_some hxw bg0
      have bg1 := Ext.cell_some hxw bg1
      have ba0 := Ext.cell_some hxw ba0
      have ba1 := Ext.cell_some hxw ba1
      have bb0 := Ext.cell_some hxw bb0
      have bb1 := Ext.cell_some hxw bb1
      have bm0 := Ext.cell_some hxw bm0
      have bm1 := Ext.cell_some hxw bm1
      have bn0 := Ext.cell_some hxw bn0
      have bn1 := Ext.cell_some hxw bn1
      clear hj
      go_simp
      try go_bits
      first | rfl | (rw [if_pos (by omega), if_pos (by omega)]; go_simp; rfl) | (rw [if_pos (by omega)]; go_simp; rfl) | skip
    · have x0 := Ext.cell_some hxw x0
      have x1 := Ext.cell_some hxw x1
      have bf0 := Ext.cell_some hxw bf0
      have bf1 := Ext.cell_some hxw bf1
      have bg0 := Ext.cell_some hxw bg0
      have bg1 := Ext.cell_some hxw bg1
      have ba0 := Ext.cell_some hxw ba0
      have ba1 := Ext.cell_some hxw ba1
      have bb0 := Ext.cell_some hxw bb0
      have bb1 := Ext.cell_some hxw bb1
      have bm0 := Ext.cell_some hxw bm0
      have bm1 := Ext.cell_some hxw bm1
      have bn0 := Ext.cell_some hxw bn0
      have bn1 := Ext.cell_some hxw bn1
      clear hj
      go_simp
      try go_bits
      first | rfl | (rw [if_pos (by omega), if_pos (by omega)]; go_simp; rfl) | (rw [if_pos (by omega)]; go_simp; rfl) | skip
    · have x0 := Ext.cell_some hxw x0
      have x1 := Ext.cell_some hxw x1
      have bf0 := Ext.cell_some hxw bf0
      have bf1 := Ext.cell_some hxw bf1
      have bg0 := Ext.cell_some hxw bg0
      have bg1 := Ext.cell_some hxw bg1
      have ba0 := Ext.cell_some hxw ba0
      have ba1 := Ext.cell_some hxw ba1
      have bb0 := Ext.cell_some hxw bb0
      have bb1 := Ext.cell_some hxw bb1
      have bm0 := Ext.cell_some hxw bm0
      have bm1 := Ext.cell_some hxw bm1
      have bn0 := Ext.cell_some hxw bn0
      have bn1 := Ext.cell_some hxw bn1
      clear hj
      go_simp
      try go_bits
      exact (HT.out.1 _ (hS.ext hxw) (HM.out.ext (hx.trans hxw))).mono (by rintro e w'' ⟨z, rfl, hz, hy⟩; exact ⟨z, rfl, hy, Own.readsW hz⟩)
    · have x0 := Ext.cell_some hxw x0
      have x1 := Ext.cell_some hxw x1
      have bf0 := Ext.cell_some hxw bf0
      have bf1 := Ext.cell_some hxw bf1
      have bg0 := Ext.cell_some hxw bg0
      have bg1 := Ext.cell_some hxw bg1
      have ba0 := Ext.cell_some hxw ba0
      have ba1 := Ext.cell_some hxw ba1
      have bb0 := Ext.cell_some hxw bb0
      have bb1 := Ext.cell_some hxw bb1
      have bm0 := Ext.cell_some hxw bm0
      have bm1 := Ext.cell_some hxw bm1
      have bn0 := Ext.cell_some hxw bn0
      have bn1 := Ext.cell_some hxw bn1
      clear hj
      go_simp
      try go_bits
      first | rfl | (rw [if_pos (by omega), if_pos (by omega)]; go_simp; rfl) | (rw [if_pos (by omega)]; go_simp; rfl) | skip
    · have x0 := Ext.cell_some hxw x0
      have x1 := Ext.cell_some hxw x1
      have bf0 := Ext.cell_some hxw bf0
      have bf1 := Ext.cell_some hxw bf1
      have bg0 := Ext.cell_some hxw bg0
      have bg1 := Ext.cell_some hxw bg1
      have ba0 := Ext.cell_some hxw ba0
      have ba1 := Ext.cell_some hxw ba1
      have bb0 := Ext.cell_some hxw bb0
      have bb1 := Ext.cell_some hxw bb1
      have bm0 := Ext.cell_some hxw bm0
      have bm1 := Ext.cell_some hxw bm1
      have bn0 := Ext.cell_some hxw bn0
      have bn1 := Ext.cell_some hxw bn1
      clear hj
      go_simp
      try go_bits
      exact (HT.out.2.1 _ (hS.ext hxw)).mono (by rintro e w'' ⟨z, rfl, hz, hy⟩; exact ⟨z, rfl, hy, Own.readsW hz⟩)
    · have x0 := Ext.cell_some hxw x0
      have x1 := Ext.cell_some hxw x1
      have bf0 := Ext.cell_some hxw bf0
      have bf1 := Ext.cell_some hxw bf1
      have bg0 := Ext.cell_some hxw bg0
      have bg1 := Ext.cell_some hxw bg1
      have ba0 := Ext.cell_some hxw ba0
      have ba1 := Ext.cell_some hxw ba1
      have bb0 := Ext.cell_some hxw bb0
      have bb1 := Ext.cell_some hxw bb1
      have bm0 := Ext.cell_some hxw bm0
      have bm1 := Ext.cell_some hxw bm1
      have bn0 := Ext.cell_some hxw bn0
      have bn1 := Ext.cell_some hxw bn1
      have k56 : WJ st (vs 56) w' := hj 56 (by kernel_rfl)
      have k58 : WJ st (vs 58) w' := hj 58 (by kernel_rfl)
      clear hj
      go_simp
      try go_bits
      exact laws_sameTexts_same _ _ st _ k56 k58
    · have x0 := Ext.cell_some hxw x0
      have x1 := Ext.cell_some hxw x1
      have bf0 := Ext.cell_some hxw bf0
      have bf1 := Ext.cell_some hxw bf1
      have bg0 := Ext.cell_some hxw bg0
      have bg1 := Ext.cell_some hxw bg1
      have ba0 := Ext.cell_some hxw ba0
      have ba1 := Ext.cell_some hxw ba1
      have bb0 := Ext.cell_some hxw bb0
      have bb1 := Ext.cell_some hxw bb1
      have bm0 := Ext.cell_some hxw bm0
      have bm1 := Ext.cell_some hxw bm1
      have bn0 := Ext.cell_some hxw bn0
      have bn1 := Ext.cell_some hxw bn1
      clear hj
      go_simp
      try go_bits
      first | rfl | (rw [if_pos (by omega), if_pos (by omega)]; go_simp; rfl) | (rw [if_pos (by omega)]; go_simp; rfl) | skip
    · have x0 := Ext.cell_some hxw x0
      have x1 := Ext.cell_some hxw x1
      have bf0 := Ext.cell_some hxw bf0
      have bf1 := Ext.cell_some hxw bf1
      have bg0 := Ext.cell_some hxw bg0
      have bg1 := Ext.cell_some hxw bg1
      have ba0 := Ext.cell_some hxw ba0
      have ba1 := Ext.cell_some hxw ba1
      have bb0 := Ext.cell_some hxw bb0
      have bb1 := Ext.cell_some hxw bb1
      have bm0 := Ext.cell_some hxw bm0
      have bm1 := Ext.cell_some hxw bm1
      have bn0 := Ext.cell_some hxw bn0
      have bn1 := Ext.cell_some hxw bn1
      clear hj
      go_simp
      try go_bits
      first | rfl | (rw [if_pos (by omega), if_pos (by omega)]; go_simp; rfl) | (rw [if_pos (by omega)]; go_simp; rfl) | skip
  case' hy_1_p =>
    intro vs wf hy hk
    have k56 : (WJ st) (vs 56) wf := hk 56 _ rfl
    have k58 : (WJ st) (vs 58) wf := hk 58 _ rfl
    clear hk
    replace x0 := Ext.cell_some hy x0
    replace x1 := Ext.cell_some hy x1
    replace bf0 := Ext.cell_some hy bf0
    replace bf1 := Ext.cell_some hy bf1
    replace bg0 := Ext.cell_some hy bg0
    replace bg1 := Ext.cell_some hy bg1
    replace ba0 := Ext.cell_some hy ba0
    replace ba1 := Ext.cell_some hy ba1
    replace bb0 := Ext.cell_some hy bb0
    replace bb1 := Ext.cell_some hy bb1
    replace bm0 := Ext.cell_some hy bm0
    replace bm1 := Ext.cell_some hy bm1
    replace bn0 := Ext.cell_some hy bn0
    replace bn1 := Ext.cell_some hy bn1
    replace hx := Ext.trans hx hy
    replace hS := hS.ext hy
    replace hG := hG.ext hy
    replace hW := hW.ext hy
    replace hz1 := hz1.ext hy
    replace hz2 := hz2.ext hy
    replace hS1 := hS1.ext hy
    replace hS2 := hS2.ext hy
    replace hz3 := hz3.ext hy
    replace hz4 := hz4.ext hy
    go_simp
  clear k56 k58
  skip
  have hll := fun w h => spec_LanguageOf_any L nn (.slice q n cc) F w h HK.out.2.2.2.2.2.2.2.2
  have hcl := fun (h0 : 0 ≤ k) (h6 : nn ≤ 6) => (show k = ((langOf L F nn).length : Int) by rw [HK.out.1] at h0 ⊢; exact count_lang h0 h6)
  obtain ⟨lw, hlw⟩ : ∃ l, l = langOf L F nn := ⟨_, rfl⟩
  rw [← hlw] at hll hcl
  have HL := Lib.hid (And.intro hll hcl)
  clear hll hcl hlw
  go_upto_region 14 with fail
  go_cut [144] from 131 to 144 (fun s144 wx => s144 = .bool false ∧ Ext wf wx)
  case first =>
    clear hG hW hz1 hz2 hz3 hz4 hS1 hS2 bf0 bf1 bg0 bg1 ba0 ba1 bb0 bb1 bm0 bm1 bn0 bn1
    by_cases hk0 : 0 ≤ k
    · by_cases h6 : nn ≤ 6
      · go_wp2_with fail
        with_reducible refine (HL.out.1 _ hS).mono ?_
        rintro e wl ⟨z, rfl, hz, hy⟩
        obtain ⟨ql, cl, rfl⟩ := (Own.readsW hz).slice
        have hcl := HL.out.2 hk0 h6
        obtain ⟨ll, hl⟩ : ∃ l, l = lw.length := ⟨_, rfl⟩
        rw [← hl] at hcl ⊢
        have e0 : (k != (ll : Int)) = false := by simp [hcl]
        clear hl hz hcl
        go_wp2
        go_meet
        exact ⟨rfl, hy⟩
      · go_wp2
        go_meet
        exact ⟨rfl, Ext.refl _⟩
    · go_wp2
      go_meet
      exact ⟨rfl, Ext.refl _⟩
  case rest =>
  as_aux_lemma =>
  obtain ⟨rfl, hy⟩ := hcut
  replace hx := hx.trans hy
  replace hS := hS.ext hy
  replace hG := hG.ext hy
  replace hW := hW.ext hy
  replace hz1 := hz1.ext hy
  replace hz2 := hz2.ext hy
  replace hS1 := hS1.ext hy
  replace hS2 := hS2.ext hy
  replace hz3 := hz3.ext hy
  replace hz4 := hz4.ext hy
  replace x0 := hy.cell_some x0
  replace x1 := hy.cell_some x1
  replace bf0 := hy.cell_some bf0
  replace bf1 := hy.cell_some bf1
  replace bg0 := hy.cell_some bg0
  replace bg1 := hy.cell_some bg1
  replace ba0 := hy.cell_some ba0
  replace ba1 := hy.cell_some ba1
  replace bb0 := hy.cell_some bb0
  replace bb1 := hy.cell_some bb1
  replace bm0 := hy.cell_some bm0
  replace bm1 := hy.cell_some bm1
  replace bn0 := hy.cell_some bn0
  replace bn1 := hy.cell_some bn1
  clear hy
  have hgf : gb = true → graphO L F = some gm := fun hb => by
    have h1 := HK.out.2.1
    have h2 := HK.out.2.2.2.2.1
    have h3 := HK.out.2.2.2.2.2.1
    rw [← h1]
    cases go with
    | none => rw [h3] at hb; cases hb
    | some g => rw [h2]; rfl
  have hcq : gb = true → 2 ≤ nn → nn ≤ 8 → ∀ w, ReadsRows w um gm → Calls Tryz.prog 25 #[um, .int .i64 (nn - 2)] w fun e w' => e = .returned (.int .i64 k) ∧ Ext w w' := fun hb h2 h8 w hr => by
    have hg := hgf hb
    have h01 := graph_01 hg
    have h0 : ¬ (langOf L F 2).length = 0 := fun e => by
      unfold graphO at hg
      rw [if_pos e] at hg
      cases hg
    obtain ⟨K, e, hf, -⟩ := lang2_ok h0
    have hs : shiftOk L F = true := by rw [e]; exact hf.ok
    have hk : k = sumN gm.length (colC (at2 gm) gm.length (nn - 2).toNat) := by rw [HK.out.1]; exact cntW_some hs h2 (by omega) hg
    have := spec_CountPaths_graph um gm (nn - 2).toNat w hr h01.1.1 h01.1.2 h01.2.1 h01.2.2 (by omega)
    rw [← hk, show (((nn - 2).toNat : Nat) : Int) = nn - 2 by omega] at this
    exact this
  have HP := Lib.hid (And.intro hgf hcq)
  clear hgf hcq
  obtain ⟨wg, hwg⟩ : ∃ wz : World, wz = wc := ⟨_, rfl⟩
  rw [← hwg] at hS hG hW hz1 hz2 hS1 hS2 hz3 hz4 x0 x1 bf0 bf1 bg0 bg1 ba0 ba1 bb0 bb1 bm0 bm1 bn0 bn1 hx ⊢
  clear hwg
  go_upto_region 16 with fail
  go_cut [165] from 145 to 165 (fun s165 wx => s165 = .bool false ∧ Ext wg wx)
  case first =>
    clear hW hz1 hz2 hz3 hz4 hS1 hS2 bf0 bf1 bg0 bg1 ba0 ba1 bb0 bb1 bm0 bm1 bn0 bn1
    cases gb
    · go_wp2
      go_meet
      exact ⟨rfl, Ext.refl _⟩
    by_cases h2 : 2 ≤ nn
    · by_cases h8 : nn ≤ 8
      · by_cases hk0 : 0 ≤ k
        · go_wp2_with fail
          with_reducible refine (HP.out.2 (by first | rfl | trivial) h2 h8 _ hG).mono ?_
          rintro e wl ⟨rfl, hy⟩
          go_wp2
          go_meet
          exact ⟨rfl, hy⟩
        · go_wp2
          go_meet
          exact ⟨rfl, Ext.refl _⟩
      · go_wp2
        go_meet
        exact ⟨rfl, Ext.refl _⟩
    · go_wp2
      go_meet
      exact ⟨rfl, Ext.refl _⟩
  case rest =>
  as_aux_lemma =>
  obtain ⟨rfl, hy⟩ := hcut
  replace hx := hx.trans hy
  replace hS := hS.ext hy
  replace hG := hG.ext hy
  replace hW := hW.ext hy
  replace hz1 := hz1.ext hy
  replace hz2 := hz2.ext hy
  replace hS1 := hS1.ext hy
  replace hS2 := hS2.ext hy
  replace hz3 := hz3.ext hy
  replace hz4 := hz4.ext hy
  replace x0 := hy.cell_some x0
  replace x1 := hy.cell_some x1
  replace bf0 := hy.cell_some bf0
  replace bf1 := hy.cell_some bf1
  replace bg0 := hy.cell_some bg0
  replace bg1 := hy.cell_some bg1
  replace ba0 := hy.cell_some ba0
  replace ba1 := hy.cell_some ba1
  replace bb0 := hy.cell_some bb0
  replace bb1 := hy.cell_some bb1
  replace bm0 := hy.cell_some bm0
  replace bm1 := hy.cell_some bm1
  replace bn0 := hy.cell_some bn0
  replace bn1 := hy.cell_some bn1
  clear hy
  have hfs : fb = true → sameSh fL fm L F = true := fun hb => by
    have h1 := HK.out.2.2.1
    have h4 := HK.out.2.2.2.1
    have h2 := HK.out.2.2.2.2.2.2.1
    have h3 := HK.out.2.2.2.2.2.2.2.1
    cases hfo : fo with
    | none => rw [h3, hfo] at hb; cases hb
    | some g =>
      rw [h4, h2, hfo]
      exact forb_same (by rw [← h1, hfo]; rfl)
  have hfl : ∀ f ∈ fm, f.length ≤ maxLen := fun f hf => by
    have h1 := HK.out.2.2.1
    have h2 := HK.out.2.2.2.2.2.2.1
    rw [h2, h1] at hf
    have := forbO_short L F f hf
    unfold maxLen; omega
  have hsm := fun w h h' hm => impl_AreSameShift_any fL L (.slice qz1 nz1 cz1) (.slice q n cc) fm F w h h' hm hfl HK.out.2.2.2.2.2.2.2.2
  have HFS := Lib.hid (And.intro hfs hsm)
  clear hfs hfl hsm
  obtain ⟨wh, hwh⟩ : ∃ wz : World, wz = wc := ⟨_, rfl⟩
  rw [← hwh] at hS hG hW hz1 hz2 hS1 hS2 hz3 hz4 x0 x1 bf0 bf1 bg0 bg1 ba0 ba1 bb0 bb1 bm0 bm1 bn0 bn1 hx ⊢
  clear hwh
  go_upto_region 18 with fail
  go_cut [172] from 166 to 172 (fun s172 wx => s172 = .bool false ∧ Ext wh wx)
  case first =>
    clear hG hW hz2 hz3 hz4 hS1 hS2 bg0 bg1 ba0 ba1 bb0 bb1 bm0 bm1 bn0 bn1
    cases fb
    · go_wp2
      go_meet
      exact ⟨rfl, Ext.refl _⟩
    have hsm := HFS.out.2 wh hz1 hS (HM.out.ext hx)
    rw [HFS.out.1 (by first | rfl | trivial)] at hsm
    go_wp2_with fail
    with_reducible refine hsm.mono ?_
    rintro e wl ⟨rfl, hy⟩
    go_wp2
    go_meet
    exact ⟨rfl, hy⟩
  case rest =>
  as_aux_lemma =>
  obtain ⟨rfl, hy⟩ := hcut
  replace hx := hx.trans hy
  replace hS := hS.ext hy
  replace hG := hG.ext hy
  replace hW := hW.ext hy
  replace hz1 := hz1.ext hy
  replace hz2 := hz2.ext hy
  replace hS1 := hS1.ext hy
  replace hS2 := hS2.ext hy
  replace hz3 := hz3.ext hy
  replace hz4 := hz4.ext hy
  replace x0 := hy.cell_some x0
  replace x1 := hy.cell_some x1
  replace bf0 := hy.cell_some bf0
  replace bf1 := hy.cell_some bf1
  replace bg0 := hy.cell_some bg0
  replace bg1 := hy.cell_some bg1
  replace ba0 := hy.cell_some ba0
  replace ba1 := hy.cell_some ba1
  replace bb0 := hy.cell_some bb0
  replace bb1 := hy.cell_some bb1
  replace bm0 := hy.cell_some bm0
  replace bm1 := hy.cell_some bm1
  replace bn0 := hy.cell_some bn0
  replace bn1 := hy.cell_some bn1
  clear hy
  obtain ⟨wi, hwi⟩ : ∃ wz : World, wz = wc := ⟨_, rfl⟩
  rw [← hwi] at hS hG hW hz1 hz2 hS1 hS2 hz3 hz4 x0 x1 bf0 bf1 bg0 bg1 ba0 ba1 bb0 bb1 bm0 bm1 bn0 bn1 hx ⊢
  clear hwi
  go_upto_if 173 with fail
  go_cut [20, 21] from 173 to 197 (fun _ _ wx => Ext wi wx)
  case first =>
    clear hG hW hz1 hz2 hz4 bf0 bf1 bg0 bg1 bn0 bn1 HFS HP HT HK
    cases mb
    · go_wp2
      go_meet
      exact Ext.refl _
    have hmo : meetO L1 F1 L2 F2 = some mm := by
      have h1 := HQ.out.1
      have h2 := HQ.out.2.2.1
      have h3 := HQ.out.2.2.2.1
      rw [← h1]
      cases hm : mo with
      | none => rw [hm] at h3; cases h3
      | some g => rw [h2, hm]; rfl
    obtain ⟨K, e1, e2, e3, hfA, hfB, hw⟩ := meet_words hmo
    have e3' : mL = K := by rw [HQ.out.2.1]; exact e3
    have hms := meet_short hmo HQ.out.2.2.2.2.1 HQ.out.2.2.2.2.2
    have hll := fun w h => spec_LanguageOf_any mL 3 (.slice qz3 nz3 cz3) mm w h hms
    obtain ⟨wl, hwl⟩ : ∃ l, l = langOf mL mm 3 := ⟨_, rfl⟩
    rw [← hwl] at hll
    rw [← e3', ← hwl] at hw
    have hia := fun w x h (hx : x ∈ wl) => spec_InLanguage_yes K (.slice q1 n1 c1) F1 x w h hfA (by rw [← e3']; exact (hw x hx).1) (hw x hx).2.1 (hw x hx).2.2.1
    have hib := fun w x h (hx : x ∈ wl) => spec_InLanguage_yes K (.slice q2 n2 c2) F2 x w h hfB (by rw [← e3']; exact (hw x hx).1) (hw x hx).2.1 (hw x hx).2.2.2
    rw [← e1] at hia
    rw [← e2] at hib
    have HI := Lib.hid (And.intro hia hib)
    have HL3 := Lib.hid hll
    obtain ⟨N, hN⟩ : ∃ N, N = wl.length := ⟨_, rfl⟩
    clear hll hia hib hw hfA hfB e1 e2 e3 e3' hwl hmo hms HQ HB
    go_wp2_with fail
    with_reducible refine (HL3.out _ hz3).mono ?_
    rintro e w20 ⟨z, rfl, hz, hy⟩
    have hF := Own.readsW hz
    clear hz
    obtain ⟨qz, cz, rfl⟩ := hF.slice
    rw [← hN] at hF ⊢
    obtain ⟨-, hNc, hcm⟩ := hF.len
    have HF := Lib.hid (And.intro hF (And.intro (hS1.ext hy) (And.intro (hS2.ext hy) (And.intro (hy.cell_some ba0) (And.intro (hy.cell_some ba1) (And.intro (hy.cell_some bb0) (And.intro (hy.cell_some bb1) hN)))))))
    clear hF hS1 hS2 ba0 ba1 bb0 bb1 hN bm0 bm1 hz3 hS x0 x1 HL3
    go_wp2
    go_loopw [21] (fun i wr => ∃ j : Nat, i = .int .i64 j ∧ j ≤ N ∧ Ext w20 wr) (fun i _ => N - (intOf i).toNat)
    case atStart => exact ⟨0, rfl, by omega, Ext.refl _⟩
    case round =>
      obtain ⟨j, rfl, hj, hxr⟩ := hrel
      by_cases hlt : j < N
      · have hjl : j < wl.length := by rw [← HF.out.2.2.2.2.2.2.2]; exact hlt
        obtain ⟨g, p, rfl, hc⟩ := (ReadsW.ext HF.out.1 hxr).at j hjl
        obtain ⟨U, hU⟩ : ∃ U, U = mkS (wl.getD j []) := ⟨_, rfl⟩
        have hmem : wl.getD j [] ∈ wl := by rw [List.getD_eq_getElem?_getD, List.getElem?_eq_getElem hjl]; exact List.getElem_mem _
        have hA := fun w h => HI.out.1 w _ h hmem
        have hB := fun w h => HI.out.2 w _ h hmem
        rw [← hU] at hc hA hB
        have HA := Lib.hid (And.intro hA hB)
        have ba0 := hxr.cell_some HF.out.2.2.2.1
        have ba1 := hxr.cell_some HF.out.2.2.2.2.1
        have bb0 := hxr.cell_some HF.out.2.2.2.2.2.1
        have bb1 := hxr.cell_some HF.out.2.2.2.2.2.2.1
        have hS1 := ReadsW.ext HF.out.2.1 hxr
        have hS2 := ReadsW.ext HF.out.2.2.1 hxr
        clear hA hB hU hmem hjl
        go_upto_region 25 with fail
        go_cut [197] from 176 to 197 (fun s197 wx => s197 = .bool false ∧ Ext wr wx)
        case first =>
          go_region_with (go_at_call 26; first
            | (with_reducible refine (HA.out.1 _ ?_).mono ?_
               · exact hS1.ext (Ext.drew _)
               rintro e wa ⟨rfl, hya⟩
               replace hya := (Ext.drew wr).trans hya
               replace hc := hya.cell_some hc
               replace bb0 := hya.cell_some bb0
               replace bb1 := hya.cell_some bb1)
            | (with_reducible refine (HA.out.2 _ ?_).mono ?_
               · exact hS2.ext hya
               rintro e wb ⟨rfl, hyb⟩))
          all_goals (go_wp2_with fail; go_meet; exact ⟨rfl, hya.trans hyb⟩)
        case rest =>
        obtain ⟨rfl, hyh⟩ := hcut
        replace hc := hyh.cell_some hc
        replace hxr := hxr.trans hyh
        clear hyh ba0 ba1 bb0 bb1 hS1 hS2
        go_wp2
        go_round
        case rel => exact ⟨j + 1, by go_num, by omega, hxr⟩
        case measure => simp [intOf]; omega
      · go_wp2
        go_meet
        exact hy.trans hxr
  case rest =>
  as_aux_lemma =>
  have hy := hcut
  clear hcut
  replace hx := hx.trans hy
  replace hS := hS.ext hy
  replace hG := hG.ext hy
  replace hW := hW.ext hy
  replace hz1 := hz1.ext hy
  replace hz2 := hz2.ext hy
  replace hS1 := hS1.ext hy
  replace hS2 := hS2.ext hy
  replace hz3 := hz3.ext hy
  replace hz4 := hz4.ext hy
  replace x0 := hy.cell_some x0
  replace x1 := hy.cell_some x1
  replace bf0 := hy.cell_some bf0
  replace bf1 := hy.cell_some bf1
  replace bg0 := hy.cell_some bg0
  replace bg1 := hy.cell_some bg1
  replace ba0 := hy.cell_some ba0
  replace ba1 := hy.cell_some ba1
  replace bb0 := hy.cell_some bb0
  replace bb1 := hy.cell_some bb1
  replace bm0 := hy.cell_some bm0
  replace bm1 := hy.cell_some bm1
  replace bn0 := hy.cell_some bn0
  replace bn1 := hy.cell_some bn1
  clear hy
  clear hW hz1 hz2 hz3 hz4 hS1 hS2 bf0 bf1 bg0 bg1 ba0 ba1 bb0 bb1 bm0 bm1 bn0 bn1 HFS HB HQ HL
  obtain ⟨pu, cu, rfl⟩ := hG.slice
  cases gb
  · go_wp2
    go_ret
    exact ⟨rfl, hx⟩
  · have hg := HP.out.1 (by first | rfl | trivial)
    obtain ⟨hbusy, hmat, hlen⟩ := graph_busy hg
    have h01 := graph_01 hg
    have hlv := fun w h => spec_IsLively_busy (.slice pu gm.length cu) gm gm.length w h rfl h01.1.2 h01.2.1 hbusy hmat
    have hle : gm.length = st.length := by rw [hlen, HT.out.2.2]
    have HV := Lib.hid (And.intro hlv hle)
    clear hg hbusy hmat hlen h01 hlv hle
    go_wp2_with fail
    with_reducible refine (HV.out.1 _ hG).mono ?_
    rintro e wl ⟨rfl, hy⟩
    replace hx := hx.trans hy
    replace hS := hS.ext hy
    replace x0 := hy.cell_some x0
    replace x1 := hy.cell_some x1
    clear hy hG
    go_wp2_with fail
    with_reducible refine (HT.out.1 _ hS (HM.out.ext hx)).mono ?_
    rintro e wm ⟨z, rfl, hz, hy⟩
    obtain ⟨q5, c5, rfl⟩ := (Own.readsW hz).slice
    rw [← HV.out.2]
    replace hx := hx.trans hy
    clear hy hz
    go_wp2
    go_ret
    exact ⟨rfl, hx⟩

set_option maxRecDepth 100000 in
set_option linter.unusedVariables false in
theorem fnPresented_lifted (os : Os) (started : os.Started) (H : Type) (enc : TypeId × Value → H) :
    ReturnsInHanded {} Tryz.checked os 3 .any (Rows.fnPresentedSpec.pre6 enc Tryz.prog Tryz.f3 Rows.fnPresentedRow.domain false) (Rows.fnPresentedSpec.post enc Tryz.prog Tryz.f3 false true false false) := by
  refine returnsInHanded_of_change_shaped (C := Tryz.checked) own started (by kernel_rfl) Tryz.func3
    (ChangeSpec.witness6 (enc := enc) (C := Tryz.checked) false ⟨#[], #[.slice none 0 0], []⟩ 8 (by kernel_rfl) (by kernel_rfl) (by kernel_rfl) (by kernel_rfl)) ?_
  intro W base args ds gs before hval0 hW hcnd _ hsh _
  have hval : ∀ (j : Nat) t v, Tryz.f3.params[j]? = some t → args[j]? = some v → Value.okWide Tryz.prog W .any base t v := hval0
  have hW' := hW
  obtain ⟨p, q, hA0, hV, rfl, hfz, hnd⟩ := hW
  have hA : DataW.TrodAll enc Tryz.prog W 0 (fun _ => true) true Tryz.f3.params.toList args.toList ds p := hA0
  rw [Tryz.params3] at hA hval
  obtain ⟨v0, vs0, d0, ds0, p0, q0, hargs, rfl, rfl, h0, r0⟩ := trodAll_cons hA
  obtain ⟨rfl, rfl, rfl⟩ := trodAll_nil r0
  obtain rfl : args = #[v0] := by cases args; simp_all
  obtain ⟨rfl, rfl⟩ := trodVars_none hV
  have k0 := h0
  have lt0 : ∀ x ∈ p0, x.block < W.heap.size := by obtain ⟨m, hm⟩ := k0; exact DataW.trod_lt m _ _ _ hm
  obtain ⟨xs0, rd0⟩ := bytes_of_trod Tryz.underlying22 Tryz.underlying5 (by kernel_rfl) (hval 0 22 v0 rfl rfl) h0
  clear hA0 hval0
  refine (fnPresented_any v0 xs0 W rd0 (MaxC.of hsh)).mono fun e W' ⟨he, bel⟩ => ?_
  subst he
  exact ⟨_, rfl, _, _, _, [], _, [], hW', trodAll_mk1 (shut_bool Tryz.underlying4 _), (trodAll_cons_mk (Below.trod laidOut (by kernel_rfl) (of_decide_eq_true (by kernel_rfl)) k0 bel lt0) trodAll_mk0), rfl, Below.frame bel _, fun h => by cases h⟩

theorem fnPresented_holds : Rows.FnPresentedSaid :=
  OpenClaim.holds_of_wide 3 Tryz.f3 rfl rfl rfl rfl rfl rfl rfl ⟨rfl, rfl, rfl, rfl, rfl⟩ rfl rfl rfl rfl rfl (by kernel_rfl) Tryz.func3 (by show joinedFacts Tryz.prog 3 Tryz.f3 Rows.fnPresentedSpec Rows.fnPresentedRow = true; unfold joinedFacts; rw [mayEnter_it, liftsFinal_it, make_it]; kernel_rfl)
    (of_decide_eq_true (by kernel_rfl)) (by unfold Func.isWrapper; first | (rw [if_pos (by decide +kernel)]; kernel_rfl) | (rw [if_neg (by decide +kernel)]; exact ⟨rfl, rfl⟩))
    (fun os started H enc _ => fnPresented_lifted os started H enc)
end Go.Proofs.YtfiembmfkokllaaGreat

/- Contract: the two shifts that the law draws. -/
import Derived.Test.YtfiembmfkokllaaGreatPrsH
namespace Go.Proofs.YtfiembmfkokllaaGreat
open Go.RowKit Go.Cm

set_option maxRecDepth 100000 in
set_option maxHeartbeats 4000000 in
theorem spec_DrawAreSameShift_any (v : Value) (xs : List UInt8) (w : World) (h : ReadsB w v xs) :
    Calls Tryz.prog 11 #[v] w fun e w' => ∃ u u', e = .returned (.tuple #[u, u']) ∧ ShJ w' w.heap.size u ∧ ShJ w' w.heap.size u' ∧ Ext w w' := by
  have hx0 := (Ext.alloc w (.cells #[.int .i64 0, .slice none 0 0] 26)).trans (Ext.alloc _ (.cells #[.int .i64 0, .slice none 0 0] 26))
  have br : Blk ((w.alloc (.cells #[.int .i64 0, .slice none 0 0] 26)).alloc (.cells #[.int .i64 0, .slice none 0 0] 26)) w.heap.size #[.int .i64 0, .slice none 0 0] := by (repeat (first | (refine Blk.mk' ?_; (simp; done)) | apply Blk.old))
  have bs : Blk ((w.alloc (.cells #[.int .i64 0, .slice none 0 0] 26)).alloc (.cells #[.int .i64 0, .slice none 0 0] 26)) (w.heap.size + 1) #[.int .i64 0, .slice none 0 0] := by (repeat (first | (refine Blk.mk' ?_; (simp; done)) | apply Blk.old))
  have h0 : ReadsB ((w.alloc (.cells #[.int .i64 0, .slice none 0 0] 26)).alloc (.cells #[.int .i64 0, .slice none 0 0] 26)) v xs := h.ext hx0
  clear h
  go_enter Tryz.func11, Tryz.ntmps11
  go_wp2_with fail
  with_reducible refine (spec_l9Two_any v xs _ h0).mono ?_
  rintro e w1 ⟨_, _, rfl, ⟨L, q, n, cc, F, rfl, ho, hf⟩, ⟨L2, q2, n2, c2, F2, rfl, ho2, hf2⟩, hx⟩
  obtain ⟨b1, hb1⟩ : ∃ b, b = ((w.alloc (.cells #[.int .i64 0, .slice none 0 0] 26)).alloc (.cells #[.int .i64 0, .slice none 0 0] 26)).heap.size := ⟨_, rfl⟩
  have hrb : w.heap.size + 1 < b1 := by rw [hb1]; simp
  rw [← hb1] at ho ho2
  replace br := br.ext hx
  replace bs := bs.ext hx
  have hrw := bs.lt
  replace hx := hx0.trans hx
  clear h0 hx0 hb1
  replace hx := (hx.trans (Ext.alloc w1 (.cells #[.int .i64 L, .slice q n cc] 26))).trans (Ext.alloc _ (.cells #[.int .i64 L2, .slice q2 n2 c2] 26))
  have bx : Blk ((w1.alloc (.cells #[.int .i64 L, .slice q n cc] 26)).alloc (.cells #[.int .i64 L2, .slice q2 n2 c2] 26)) w1.heap.size #[.int .i64 L, .slice q n cc] := by (repeat (first | (refine Blk.mk' ?_; (simp; done)) | apply Blk.old))
  have by' : Blk ((w1.alloc (.cells #[.int .i64 L, .slice q n cc] 26)).alloc (.cells #[.int .i64 L2, .slice q2 n2 c2] 26)) (w1.heap.size + 1) #[.int .i64 L2, .slice q2 n2 c2] := by (repeat (first | (refine Blk.mk' ?_; (simp; done)) | apply Blk.old))
  replace br := (br.old (o := .cells #[.int .i64 L, .slice q n cc] 26)).old (o := .cells #[.int .i64 L2, .slice q2 n2 c2] 26)
  replace bs := (bs.old (o := .cells #[.int .i64 L, .slice q n cc] 26)).old (o := .cells #[.int .i64 L2, .slice q2 n2 c2] 26)
  replace ho := (ho.ext (Ext.alloc w1 (.cells #[.int .i64 L, .slice q n cc] 26))).ext (Ext.alloc _ (.cells #[.int .i64 L2, .slice q2 n2 c2] 26))
  replace ho2 := (ho2.ext (Ext.alloc w1 (.cells #[.int .i64 L, .slice q n cc] 26))).ext (Ext.alloc _ (.cells #[.int .i64 L2, .slice q2 n2 c2] 26))
  go_upto_region 2 with fail
  obtain ⟨X, hX⟩ : ∃ X, X = w1.heap.size := ⟨_, rfl⟩
  obtain ⟨Y, hY⟩ : ∃ Y, Y = w1.heap.size + 1 := ⟨_, rfl⟩
  rw [← hY] at by' ⊢
  rw [← hX] at bx hrw ⊢
  have hXY : X < Y := by omega
  obtain ⟨wq, hwq⟩ : ∃ x, x = (w1.alloc (.cells #[.int .i64 L, .slice q n cc] 26)).alloc (.cells #[.int .i64 L2, .slice q2 n2 c2] 26) := ⟨_, rfl⟩
  rw [← hwq] at br bs bx by' ho ho2 hx ⊢
  clear hwq hX hY
  have HF := Lib.hid (And.intro ho (And.intro ho2 (And.intro hf hf2)))
  have x0 := bx.d0
  have x1 := bx.d1
  have y0 := by'.d0
  have y1 := by'.d1
  have r0 := br.d0
  have r1 := br.d1
  have f0 := br.frozen 0
  have f1 := br.frozen 1
  have s0 := bs.d0
  have s1 := bs.d1
  have g0 := bs.frozen 0
  have g1 := bs.frozen 1
  have hxx := fun (u0 u1 v0 v1 : Value) => (((hx.setCell (p := ⟨w.heap.size, 0, none⟩) (Nat.le_refl _) u0).setCell (p := ⟨w.heap.size, 1, none⟩) (Nat.le_refl _) u1).setCell (p := ⟨w.heap.size + 1, 0, none⟩) (Nat.le_succ _) v0).setCell (p := ⟨w.heap.size + 1, 1, none⟩) (Nat.le_succ _) v1
  have hkk := fun (u0 u1 v0 v1 : Value) (V : Value) (fs : List Value) (hV : Own wq b1 9 V fs) => grown_keeps (grown_store _ ⟨w.heap.size + 1, 1, none⟩ v1) (grown_keeps (grown_store _ ⟨w.heap.size + 1, 0, none⟩ v0) (grown_keeps (grown_store _ ⟨w.heap.size, 1, none⟩ u1) (grown_keeps (grown_store wq ⟨w.heap.size, 0, none⟩ u0) hV (show w.heap.size < b1 by omega)) (show w.heap.size < b1 by omega)) (show w.heap.size + 1 < b1 by omega)) (show w.heap.size + 1 < b1 by omega)
  have HK := Lib.hid (And.intro hxx hkk)
  clear hxx hkk bx by' br bs ho ho2 hf hf2 hx
  go_wp2
  go_region
  go_wp2
  refine bodyPost_ret (v := .tuple #[.agg #[.int .i64 L, .slice q n cc], .agg #[.int .i64 L2, .slice q2 n2 c2]]) ?_ rfl ⟨_, _, rfl, ⟨_, _, _, _, _, rfl, (HK.out.2 _ _ _ _ _ _ HF.out.1).mono (by omega), HF.out.2.2.1⟩, ⟨_, _, _, _, _, rfl, (HK.out.2 _ _ _ _ _ _ HF.out.2.1).mono (by omega), HF.out.2.2.2⟩, (by first | exact HK.out.1 _ _ _ _ | exact (HK.out.1 _ _ _ _).trans (Ext.drew _))⟩
  simp [results, Tryz.results11, go_sem, r0, r1, s0, s1]
end Go.Proofs.YtfiembmfkokllaaGreat

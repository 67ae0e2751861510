/- Contracts: shifts drawn (5): two shifts. -/
import Derived.Test.YtfiembmfkokllaaGreatPrsG
namespace Go.Proofs.YtfiembmfkokllaaGreat
open Go.RowKit Go.Cm

set_option maxRecDepth 100000 in
set_option maxHeartbeats 4000000 in
theorem spec_l9Two_any (v : Value) (xs : List UInt8) (w : World) (h : ReadsB w v xs) :
    Calls Tryz.prog 49 #[v] w fun e w' => ∃ u u', e = .returned (.tuple #[u, u']) ∧ ShJ w' w.heap.size u ∧ ShJ w' w.heap.size u' ∧ Ext w w' := by
  have hx0 := (Ext.alloc w (.cells #[.int .i64 0, .slice none 0 0] 26)).trans (Ext.alloc _ (.cells #[.int .i64 0, .slice none 0 0] 26))
  have br : Blk ((w.alloc (.cells #[.int .i64 0, .slice none 0 0] 26)).alloc (.cells #[.int .i64 0, .slice none 0 0] 26)) w.heap.size #[.int .i64 0, .slice none 0 0] := by (repeat (first | (refine Blk.mk' ?_; (simp; done)) | apply Blk.old))
  have bs : Blk ((w.alloc (.cells #[.int .i64 0, .slice none 0 0] 26)).alloc (.cells #[.int .i64 0, .slice none 0 0] 26)) (w.heap.size + 1) #[.int .i64 0, .slice none 0 0] := by (repeat (first | (refine Blk.mk' ?_; (simp; done)) | apply Blk.old))
  have h0 : ReadsB ((w.alloc (.cells #[.int .i64 0, .slice none 0 0] 26)).alloc (.cells #[.int .i64 0, .slice none 0 0] 26)) v xs := h.ext hx0
  clear h
  have ho := OldB.start h0
  clear h0
  go_enter Tryz.func49, Tryz.ntmps49
  go_wp2_with fail
  with_reducible refine ho.new.mono ?_
  rintro e w1 ⟨z, rfl, hz, hc, hx⟩
  have hzw : w.heap.size + 1 < z := by
    have : ((w.alloc (.cells #[.int .i64 0, .slice none 0 0] 26)).alloc (.cells #[.int .i64 0, .slice none 0 0] 26)).heap.size = w.heap.size + 2 := by simp
    omega
  replace br := br.ext hx
  replace bs := bs.ext hx
  replace hx := hx0.trans hx
  have hzl := hc.lt
  obtain ⟨b1, hb1⟩ : ∃ b, b = w1.heap.size := ⟨_, rfl⟩
  clear ho hx0 hz
  go_wp2_with fail
  with_reducible refine (spec_l3Bent_any _ z _ hc).mono ?_
  rintro e w2 ⟨v, rfl, ⟨L, q, n, cc, F, rfl, ho, hf, -⟩, hd⟩
  rw [← hb1] at ho hzl
  replace br := hd.blk br (by omega)
  replace bs := hd.blk bs (by omega)
  have hb2 : b1 ≤ w2.heap.size := by rw [hb1]; exact hd.grown.size
  have hrb : w.heap.size + 1 < b1 := by omega
  have hcur := hd.cur
  have hx2 := hd.toExt hx (by omega)
  clear hd hc hx hb1
  have bx : Blk (w2.alloc (.cells #[.int .i64 L, .slice q n cc] 26)) w2.heap.size #[.int .i64 L, .slice q n cc] := by (repeat (first | (refine Blk.mk' ?_; (simp; done)) | apply Blk.old))
  replace br := br.old (o := .cells #[.int .i64 L, .slice q n cc] 26)
  replace bs := bs.old (o := .cells #[.int .i64 L, .slice q n cc] 26)
  replace hx2 := hx2.trans (Ext.alloc w2 (.cells #[.int .i64 L, .slice q n cc] 26))
  replace hcur := hcur.ext (Ext.alloc w2 (.cells #[.int .i64 L, .slice q n cc] 26))
  replace ho := ho.ext (Ext.alloc w2 (.cells #[.int .i64 L, .slice q n cc] 26))
  obtain ⟨X, hX⟩ : ∃ X, X = w2.heap.size := ⟨_, rfl⟩
  have hXb : b1 ≤ X := by omega
  go_wp2_with fail
  with_reducible refine (spec_l1Once_any _ z _ _ hcur).mono ?_
  rintro e w3 ⟨b, rfl, hd2⟩
  rw [← hX] at bx
  rw [← hX]
  replace br := hd2.blk br (by omega)
  replace bs := hd2.blk bs (by omega)
  replace bx := hd2.blk bx (by omega)
  replace ho := hd2.keeps ho hzl
  replace hx2 := hd2.toExt hx2 (by omega)
  replace hcur := hd2.cur
  clear hd2 hX hb2
  have hbq : b1 ≤ w3.heap.size := by have := bx.lt; omega
  cases b
  · have HOL := ho
    go_wp2_with fail
    with_reducible refine (spec_l3Bent_any _ z _ hcur).mono ?_
    rintro e w5 ⟨v, rfl, ⟨L2, q2, n2, c2, F2, rfl, ho2, hf2, -⟩, hd⟩
    have hs5 : b1 ≤ w3.heap.size := by have := hbq; omega
    replace ho2 := ho2.mono (B' := b1) hs5
    replace br := hd.blk br (by omega)
    replace bs := hd.blk bs (by omega)
    replace bx := hd.blk bx (by omega)
    replace ho := hd.keeps ho hzl
    have hY := hd.grown.size
    replace hx2 := hd.toExt hx2 (by omega)
    replace hcur := hd.cur
    clear hd
    have by' : Blk (w5.alloc (.cells #[.int .i64 L2, .slice q2 n2 c2] 26)) w5.heap.size #[.int .i64 L2, .slice q2 n2 c2] := by (repeat (first | (refine Blk.mk' ?_; (simp; done)) | apply Blk.old))
    replace br := br.old (o := .cells #[.int .i64 L2, .slice q2 n2 c2] 26)
    replace bs := bs.old (o := .cells #[.int .i64 L2, .slice q2 n2 c2] 26)
    have hXw := bx.lt
    replace bx := bx.old (o := .cells #[.int .i64 L2, .slice q2 n2 c2] 26)
    replace hx2 := hx2.trans (Ext.alloc w5 (.cells #[.int .i64 L2, .slice q2 n2 c2] 26))
    replace hcur := hcur.ext (Ext.alloc w5 (.cells #[.int .i64 L2, .slice q2 n2 c2] 26))
    replace ho := ho.ext (Ext.alloc w5 (.cells #[.int .i64 L2, .slice q2 n2 c2] 26))
    have hlt2 : ∀ k, (Value.slice q2 n2 c2).ownBlock = some k → k < w5.heap.size := fun k hk => (World.ownsRow.lt ho2 k hk).2
    have hlt1 : ∀ k, (Value.slice q n cc).ownBlock = some k → k < w5.heap.size := fun k hk => by
      have := (World.ownsRow.lt HOL k hk).2
      omega
    replace ho2 := ho2.ext (Ext.alloc w5 (.cells #[.int .i64 L2, .slice q2 n2 c2] 26))
    obtain ⟨Y, hYY⟩ : ∃ Y, Y = w5.heap.size := ⟨_, rfl⟩
    go_wp2_with fail
    with_reducible refine (spec_l1Once_any _ z _ _ hcur).mono ?_
    rintro e w6 ⟨b, rfl, hd2⟩
    rw [← hYY] at by' hlt1 hlt2 hXw
    rw [← hYY]
    have hzY : z ≠ Y := by omega
    have hXY : X ≠ Y := by omega
    have hrY : w.heap.size + 1 < Y := by omega
    replace br := hd2.blk br (by omega)
    replace bs := hd2.blk bs (by omega)
    replace bx := hd2.blk bx (by omega)
    replace by' := hd2.blk by' (fun e => hzY e.symm)
    replace ho := hd2.keeps ho hzl
    replace ho2 := hd2.keeps ho2 hzl
    replace hx2 := hd2.toExt hx2 (by omega)
    clear hd2 hYY hcur hY
    cases b
    · skip
      have HF := Lib.hid (And.intro ho (And.intro ho2 (And.intro hf hf2)))
      have x0 := bx.d0
      have x1 := bx.d1
      have y0 := by'.d0
      have y1 := by'.d1
      have r0 := br.d0
      have r1 := br.d1
      have f0 := br.frozen 0
      have f1 := br.frozen 1
      have s0 := bs.d0
      have s1 := bs.d1
      have g0 := bs.frozen 0
      have g1 := bs.frozen 1
      have hxx := fun (u0 u1 v0 v1 : Value) => (((hx2.setCell (p := ⟨w.heap.size, 0, none⟩) (Nat.le_refl _) u0).setCell (p := ⟨w.heap.size, 1, none⟩) (Nat.le_refl _) u1).setCell (p := ⟨w.heap.size + 1, 0, none⟩) (Nat.le_succ _) v0).setCell (p := ⟨w.heap.size + 1, 1, none⟩) (Nat.le_succ _) v1
      have hkk := fun (u0 u1 v0 v1 : Value) (V : Value) (fs : List Value) (hV : Own w6 b1 9 V fs) => grown_keeps (grown_store _ ⟨w.heap.size + 1, 1, none⟩ v1) (grown_keeps (grown_store _ ⟨w.heap.size + 1, 0, none⟩ v0) (grown_keeps (grown_store _ ⟨w.heap.size, 1, none⟩ u1) (grown_keeps (grown_store w6 ⟨w.heap.size, 0, none⟩ u0) hV (show w.heap.size < b1 by omega)) (show w.heap.size < b1 by omega)) (show w.heap.size + 1 < b1 by omega)) (show w.heap.size + 1 < b1 by omega)
      have HK := Lib.hid (And.intro hxx hkk)
      clear hxx hkk bx by' br bs
      go_wp2
      go_region
      go_wp2
      refine bodyPost_ret (v := .tuple #[.agg #[.int .i64 L, .slice q n cc], .agg #[.int .i64 L2, .slice q2 n2 c2]]) ?_ rfl ⟨_, _, rfl, ⟨_, _, _, _, _, rfl, (HK.out.2 _ _ _ _ _ _ HF.out.1).mono (by omega), HF.out.2.2.1⟩, ⟨_, _, _, _, _, rfl, (HK.out.2 _ _ _ _ _ _ HF.out.2.1).mono (by omega), HF.out.2.2.2⟩, (by first | exact HK.out.1 _ _ _ _ | exact (HK.out.1 _ _ _ _).trans (Ext.drew _))⟩
      simp [results, Tryz.results49, go_sem, r0, r1, s0, s1]
    · have by2 := by'
      have x0 := bx.d0
      have y0 := by'.d0
      have t0 := by'.frozen 0
      go_upto_region 10 with fail
      obtain ⟨w7, hw7⟩ : ∃ w7, w7 = w6.setCell ⟨Y, 0, none⟩ (.int .i64 L) := ⟨_, rfl⟩
      have hg7 := grown_store w6 ⟨Y, 0, none⟩ (.int .i64 L)
      have hne : ∀ k, k ≠ Y → some (Addr.block ⟨Y, 0, none⟩) ≠ some k := fun k hk e => hk (Option.some.inj e).symm
      replace br := GB.blk hg7 br (hne _ (by omega))
      replace bs := GB.blk hg7 bs (hne _ (by omega))
      replace bx := GB.blk hg7 bx (hne _ hXY)
      replace ho := GB.own hg7 ho (fun k hk => hne k (by have := hlt1 k hk; omega))
      replace ho2 := GB.own hg7 ho2 (fun k hk => hne k (by have := hlt2 k hk; omega))
      replace hx2 := hx2.setCell (p := ⟨Y, 0, none⟩) (by show w.heap.size ≤ Y; omega) (.int .i64 L)
      replace by' : Blk (w6.setCell ⟨Y, 0, none⟩ (.int .i64 L)) Y #[.int .i64 L, .slice q2 n2 c2] := by
        have := by'.set (i := 0) (by simp) (.int .i64 L)
        simpa using this
      rw [← hw7] at br bs bx ho ho2 hx2 by' ⊢
      clear hw7 hg7 by2 x0 y0 t0
      obtain ⟨LX, hLX⟩ : ∃ LX, LX = L := ⟨_, rfl⟩
      skip
      have HF := Lib.hid (And.intro ho (And.intro ho2 (And.intro hf hf2)))
      have x0 := bx.d0
      have x1 := bx.d1
      have y0 := by'.d0
      have y1 := by'.d1
      have r0 := br.d0
      have r1 := br.d1
      have f0 := br.frozen 0
      have f1 := br.frozen 1
      have s0 := bs.d0
      have s1 := bs.d1
      have g0 := bs.frozen 0
      have g1 := bs.frozen 1
      have hxx := fun (u0 u1 v0 v1 : Value) => (((hx2.setCell (p := ⟨w.heap.size, 0, none⟩) (Nat.le_refl _) u0).setCell (p := ⟨w.heap.size, 1, none⟩) (Nat.le_refl _) u1).setCell (p := ⟨w.heap.size + 1, 0, none⟩) (Nat.le_succ _) v0).setCell (p := ⟨w.heap.size + 1, 1, none⟩) (Nat.le_succ _) v1
      have hkk := fun (u0 u1 v0 v1 : Value) (V : Value) (fs : List Value) (hV : Own w7 b1 9 V fs) => grown_keeps (grown_store _ ⟨w.heap.size + 1, 1, none⟩ v1) (grown_keeps (grown_store _ ⟨w.heap.size + 1, 0, none⟩ v0) (grown_keeps (grown_store _ ⟨w.heap.size, 1, none⟩ u1) (grown_keeps (grown_store w7 ⟨w.heap.size, 0, none⟩ u0) hV (show w.heap.size < b1 by omega)) (show w.heap.size < b1 by omega)) (show w.heap.size + 1 < b1 by omega)) (show w.heap.size + 1 < b1 by omega)
      have HK := Lib.hid (And.intro hxx hkk)
      clear hxx hkk bx by' br bs
      go_wp2
      go_region
      go_wp2
      refine bodyPost_ret (v := .tuple #[.agg #[.int .i64 L, .slice q n cc], .agg #[.int .i64 L, .slice q2 n2 c2]]) ?_ rfl ⟨_, _, rfl, ⟨_, _, _, _, _, rfl, (HK.out.2 _ _ _ _ _ _ HF.out.1).mono (by omega), HF.out.2.2.1⟩, ⟨_, _, _, _, _, rfl, (HK.out.2 _ _ _ _ _ _ HF.out.2.1).mono (by omega), HF.out.2.2.2⟩, (by first | exact HK.out.1 _ _ _ _ | exact (HK.out.1 _ _ _ _).trans (Ext.drew _))⟩
      simp [results, Tryz.results49, go_sem, r0, r1, s0, s1]
  · have x0 := bx.d0
    have x1 := bx.d1
    have hfo := spec_ForbiddenOf_any L (.slice q n cc) F w3 (Own.readsW ho) (fun f hm => by have := hf f hm; unfold maxLen; omega)
    go_wp2_with fail
    with_reducible refine hfo.mono ?_
    rintro e w4 ⟨u, rfl, hu, hx4⟩
    obtain ⟨q2, c2, rfl⟩ := (Own.readsW hu).slice
    replace hu := hu.mono (B' := b1) hbq
    obtain ⟨n2, hn2⟩ : ∃ n2, n2 = ((forbO L F).getD []).length := ⟨_, rfl⟩
    rw [← hn2] at hu ⊢
    have hf2 : ∀ f ∈ (forbO L F).getD [], f.length ≤ 100000 := fun f hm => by have := forbO_short L F f hm; omega
    obtain ⟨L2, hL2⟩ : ∃ L2, L2 = forbL L F := ⟨_, rfl⟩
    rw [← hL2]
    obtain ⟨F2, hF2⟩ : ∃ F2, F2 = (forbO L F).getD [] := ⟨_, rfl⟩
    rw [← hF2] at hu hf2
    obtain ⟨ok, hok⟩ : ∃ ok, ok = (forbO L F).isSome := ⟨_, rfl⟩
    rw [← hok]
    clear hfo hn2 hL2 hF2 hok x0 x1
    have hrY := (bs.ext hx4).lt
    have hXY := (bx.ext hx4).lt
    replace br := (br.ext hx4).old (o := .cells #[.int .i64 L2, .slice q2 n2 c2] 26)
    replace bs := (bs.ext hx4).old (o := .cells #[.int .i64 L2, .slice q2 n2 c2] 26)
    replace bx := (bx.ext hx4).old (o := .cells #[.int .i64 L2, .slice q2 n2 c2] 26)
    have by' : Blk (w4.alloc (.cells #[.int .i64 L2, .slice q2 n2 c2] 26)) w4.heap.size #[.int .i64 L2, .slice q2 n2 c2] := by (repeat (first | (refine Blk.mk' ?_; (simp; done)) | apply Blk.old))
    replace ho := (ho.ext hx4).ext (Ext.alloc w4 (.cells #[.int .i64 L2, .slice q2 n2 c2] 26))
    replace hu := hu.ext (Ext.alloc w4 (.cells #[.int .i64 L2, .slice q2 n2 c2] 26))
    replace hx2 := (hx2.trans hx4).trans (Ext.alloc w4 (.cells #[.int .i64 L2, .slice q2 n2 c2] 26))
    replace hcur := (hcur.ext hx4).ext (Ext.alloc w4 (.cells #[.int .i64 L2, .slice q2 n2 c2] 26))
    have hbq : b1 ≤ (w4.alloc (.cells #[.int .i64 L2, .slice q2 n2 c2] 26)).heap.size := by have := bx.lt; omega
    cases ok
    · have HOL := ho
      go_upto_region 7 with fail
      obtain ⟨wq, hwq⟩ : ∃ x, x = w4.alloc (.cells #[.int .i64 L2, .slice q2 n2 c2] 26) := ⟨_, rfl⟩
      rw [← hwq] at br bs bx ho hx2 hcur hbq HOL ⊢
      clear by' hu hwq
      go_wp2_with fail
      with_reducible refine (spec_l3Bent_any _ z _ hcur).mono ?_
      rintro e w5 ⟨v, rfl, ⟨L2, q2, n2, c2, F2, rfl, ho2, hf2, -⟩, hd⟩
      have hs5 : b1 ≤ wq.heap.size := by have := hbq; omega
      replace ho2 := ho2.mono (B' := b1) hs5
      replace br := hd.blk br (by omega)
      replace bs := hd.blk bs (by omega)
      replace bx := hd.blk bx (by omega)
      replace ho := hd.keeps ho hzl
      have hY := hd.grown.size
      replace hx2 := hd.toExt hx2 (by omega)
      replace hcur := hd.cur
      clear hd
      have by' : Blk (w5.alloc (.cells #[.int .i64 L2, .slice q2 n2 c2] 26)) w5.heap.size #[.int .i64 L2, .slice q2 n2 c2] := by (repeat (first | (refine Blk.mk' ?_; (simp; done)) | apply Blk.old))
      replace br := br.old (o := .cells #[.int .i64 L2, .slice q2 n2 c2] 26)
      replace bs := bs.old (o := .cells #[.int .i64 L2, .slice q2 n2 c2] 26)
      have hXw := bx.lt
      replace bx := bx.old (o := .cells #[.int .i64 L2, .slice q2 n2 c2] 26)
      replace hx2 := hx2.trans (Ext.alloc w5 (.cells #[.int .i64 L2, .slice q2 n2 c2] 26))
      replace hcur := hcur.ext (Ext.alloc w5 (.cells #[.int .i64 L2, .slice q2 n2 c2] 26))
      replace ho := ho.ext (Ext.alloc w5 (.cells #[.int .i64 L2, .slice q2 n2 c2] 26))
      have hlt2 : ∀ k, (Value.slice q2 n2 c2).ownBlock = some k → k < w5.heap.size := fun k hk => (World.ownsRow.lt ho2 k hk).2
      have hlt1 : ∀ k, (Value.slice q n cc).ownBlock = some k → k < w5.heap.size := fun k hk => by
        have := (World.ownsRow.lt HOL k hk).2
        omega
      replace ho2 := ho2.ext (Ext.alloc w5 (.cells #[.int .i64 L2, .slice q2 n2 c2] 26))
      obtain ⟨Y, hYY⟩ : ∃ Y, Y = w5.heap.size := ⟨_, rfl⟩
      go_wp2_with fail
      with_reducible refine (spec_l1Once_any _ z _ _ hcur).mono ?_
      rintro e w6 ⟨b, rfl, hd2⟩
      rw [← hYY] at by' hlt1 hlt2 hXw
      rw [← hYY]
      have hzY : z ≠ Y := by omega
      have hXY : X ≠ Y := by omega
      have hrY : w.heap.size + 1 < Y := by omega
      replace br := hd2.blk br (by omega)
      replace bs := hd2.blk bs (by omega)
      replace bx := hd2.blk bx (by omega)
      replace by' := hd2.blk by' (fun e => hzY e.symm)
      replace ho := hd2.keeps ho hzl
      replace ho2 := hd2.keeps ho2 hzl
      replace hx2 := hd2.toExt hx2 (by omega)
      clear hd2 hYY hcur hY
      cases b
      · skip
        have HF := Lib.hid (And.intro ho (And.intro ho2 (And.intro hf hf2)))
        have x0 := bx.d0
        have x1 := bx.d1
        have y0 := by'.d0
        have y1 := by'.d1
        have r0 := br.d0
        have r1 := br.d1
        have f0 := br.frozen 0
        have f1 := br.frozen 1
        have s0 := bs.d0
        have s1 := bs.d1
        have g0 := bs.frozen 0
        have g1 := bs.frozen 1
        have hxx := fun (u0 u1 v0 v1 : Value) => (((hx2.setCell (p := ⟨w.heap.size, 0, none⟩) (Nat.le_refl _) u0).setCell (p := ⟨w.heap.size, 1, none⟩) (Nat.le_refl _) u1).setCell (p := ⟨w.heap.size + 1, 0, none⟩) (Nat.le_succ _) v0).setCell (p := ⟨w.heap.size + 1, 1, none⟩) (Nat.le_succ _) v1
        have hkk := fun (u0 u1 v0 v1 : Value) (V : Value) (fs : List Value) (hV : Own w6 b1 9 V fs) => grown_keeps (grown_store _ ⟨w.heap.size + 1, 1, none⟩ v1) (grown_keeps (grown_store _ ⟨w.heap.size + 1, 0, none⟩ v0) (grown_keeps (grown_store _ ⟨w.heap.size, 1, none⟩ u1) (grown_keeps (grown_store w6 ⟨w.heap.size, 0, none⟩ u0) hV (show w.heap.size < b1 by omega)) (show w.heap.size < b1 by omega)) (show w.heap.size + 1 < b1 by omega)) (show w.heap.size + 1 < b1 by omega)
        have HK := Lib.hid (And.intro hxx hkk)
        clear hxx hkk bx by' br bs
        go_wp2
        go_region
        go_wp2
        refine bodyPost_ret (v := .tuple #[.agg #[.int .i64 L, .slice q n cc], .agg #[.int .i64 L2, .slice q2 n2 c2]]) ?_ rfl ⟨_, _, rfl, ⟨_, _, _, _, _, rfl, (HK.out.2 _ _ _ _ _ _ HF.out.1).mono (by omega), HF.out.2.2.1⟩, ⟨_, _, _, _, _, rfl, (HK.out.2 _ _ _ _ _ _ HF.out.2.1).mono (by omega), HF.out.2.2.2⟩, (by first | exact HK.out.1 _ _ _ _ | exact (HK.out.1 _ _ _ _).trans (Ext.drew _))⟩
        simp [results, Tryz.results49, go_sem, r0, r1, s0, s1]
      · have by2 := by'
        have x0 := bx.d0
        have y0 := by'.d0
        have t0 := by'.frozen 0
        go_upto_region 10 with fail
        obtain ⟨w7, hw7⟩ : ∃ w7, w7 = w6.setCell ⟨Y, 0, none⟩ (.int .i64 L) := ⟨_, rfl⟩
        have hg7 := grown_store w6 ⟨Y, 0, none⟩ (.int .i64 L)
        have hne : ∀ k, k ≠ Y → some (Addr.block ⟨Y, 0, none⟩) ≠ some k := fun k hk e => hk (Option.some.inj e).symm
        replace br := GB.blk hg7 br (hne _ (by omega))
        replace bs := GB.blk hg7 bs (hne _ (by omega))
        replace bx := GB.blk hg7 bx (hne _ hXY)
        replace ho := GB.own hg7 ho (fun k hk => hne k (by have := hlt1 k hk; omega))
        replace ho2 := GB.own hg7 ho2 (fun k hk => hne k (by have := hlt2 k hk; omega))
        replace hx2 := hx2.setCell (p := ⟨Y, 0, none⟩) (by show w.heap.size ≤ Y; omega) (.int .i64 L)
        replace by' : Blk (w6.setCell ⟨Y, 0, none⟩ (.int .i64 L)) Y #[.int .i64 L, .slice q2 n2 c2] := by
          have := by'.set (i := 0) (by simp) (.int .i64 L)
          simpa using this
        rw [← hw7] at br bs bx ho ho2 hx2 by' ⊢
        clear hw7 hg7 by2 x0 y0 t0
        obtain ⟨LX, hLX⟩ : ∃ LX, LX = L := ⟨_, rfl⟩
        skip
        have HF := Lib.hid (And.intro ho (And.intro ho2 (And.intro hf hf2)))
        have x0 := bx.d0
        have x1 := bx.d1
        have y0 := by'.d0
        have y1 := by'.d1
        have r0 := br.d0
        have r1 := br.d1
        have f0 := br.frozen 0
        have f1 := br.frozen 1
        have s0 := bs.d0
        have s1 := bs.d1
        have g0 := bs.frozen 0
        have g1 := bs.frozen 1
        have hxx := fun (u0 u1 v0 v1 : Value) => (((hx2.setCell (p := ⟨w.heap.size, 0, none⟩) (Nat.le_refl _) u0).setCell (p := ⟨w.heap.size, 1, none⟩) (Nat.le_refl _) u1).setCell (p := ⟨w.heap.size + 1, 0, none⟩) (Nat.le_succ _) v0).setCell (p := ⟨w.heap.size + 1, 1, none⟩) (Nat.le_succ _) v1
        have hkk := fun (u0 u1 v0 v1 : Value) (V : Value) (fs : List Value) (hV : Own w7 b1 9 V fs) => grown_keeps (grown_store _ ⟨w.heap.size + 1, 1, none⟩ v1) (grown_keeps (grown_store _ ⟨w.heap.size + 1, 0, none⟩ v0) (grown_keeps (grown_store _ ⟨w.heap.size, 1, none⟩ u1) (grown_keeps (grown_store w7 ⟨w.heap.size, 0, none⟩ u0) hV (show w.heap.size < b1 by omega)) (show w.heap.size < b1 by omega)) (show w.heap.size + 1 < b1 by omega)) (show w.heap.size + 1 < b1 by omega)
        have HK := Lib.hid (And.intro hxx hkk)
        clear hxx hkk bx by' br bs
        go_wp2
        go_region
        go_wp2
        refine bodyPost_ret (v := .tuple #[.agg #[.int .i64 L, .slice q n cc], .agg #[.int .i64 L, .slice q2 n2 c2]]) ?_ rfl ⟨_, _, rfl, ⟨_, _, _, _, _, rfl, (HK.out.2 _ _ _ _ _ _ HF.out.1).mono (by omega), HF.out.2.2.1⟩, ⟨_, _, _, _, _, rfl, (HK.out.2 _ _ _ _ _ _ HF.out.2.1).mono (by omega), HF.out.2.2.2⟩, (by first | exact HK.out.1 _ _ _ _ | exact (HK.out.1 _ _ _ _).trans (Ext.drew _))⟩
        simp [results, Tryz.results49, go_sem, r0, r1, s0, s1]
    · go_upto_region 6 with fail
      obtain ⟨Y, hY⟩ : ∃ Y, Y = w4.heap.size := ⟨_, rfl⟩
      rw [← hY] at by' hrY hXY ⊢
      obtain ⟨wq, hwq⟩ : ∃ x, x = w4.alloc (.cells #[.int .i64 L2, .slice q2 n2 c2] 26) := ⟨_, rfl⟩
      rw [← hwq] at br bs bx by' ho hu hx2 ⊢
      clear hwq hcur hbq hY hx4
      have HF := Lib.hid (And.intro ho (And.intro hu (And.intro hf hf2)))
      have x0 := bx.d0
      have x1 := bx.d1
      have y0 := by'.d0
      have y1 := by'.d1
      have r0 := br.d0
      have r1 := br.d1
      have f0 := br.frozen 0
      have f1 := br.frozen 1
      have s0 := bs.d0
      have s1 := bs.d1
      have g0 := bs.frozen 0
      have g1 := bs.frozen 1
      have hxx := fun (u0 u1 v0 v1 : Value) => (((hx2.setCell (p := ⟨w.heap.size, 0, none⟩) (Nat.le_refl _) u0).setCell (p := ⟨w.heap.size, 1, none⟩) (Nat.le_refl _) u1).setCell (p := ⟨w.heap.size + 1, 0, none⟩) (Nat.le_succ _) v0).setCell (p := ⟨w.heap.size + 1, 1, none⟩) (Nat.le_succ _) v1
      have hkk := fun (u0 u1 v0 v1 : Value) (V : Value) (fs : List Value) (hV : Own wq b1 9 V fs) => grown_keeps (grown_store _ ⟨w.heap.size + 1, 1, none⟩ v1) (grown_keeps (grown_store _ ⟨w.heap.size + 1, 0, none⟩ v0) (grown_keeps (grown_store _ ⟨w.heap.size, 1, none⟩ u1) (grown_keeps (grown_store wq ⟨w.heap.size, 0, none⟩ u0) hV (show w.heap.size < b1 by omega)) (show w.heap.size < b1 by omega)) (show w.heap.size + 1 < b1 by omega)) (show w.heap.size + 1 < b1 by omega)
      have HK := Lib.hid (And.intro hxx hkk)
      clear hxx hkk bx by' br bs
      go_wp2
      go_region
      go_wp2
      refine bodyPost_ret (v := .tuple #[.agg #[.int .i64 L, .slice q n cc], .agg #[.int .i64 L2, .slice q2 n2 c2]]) ?_ rfl ⟨_, _, rfl, ⟨_, _, _, _, _, rfl, (HK.out.2 _ _ _ _ _ _ HF.out.1).mono (by omega), HF.out.2.2.1⟩, ⟨_, _, _, _, _, rfl, (HK.out.2 _ _ _ _ _ _ HF.out.2.1).mono (by omega), HF.out.2.2.2⟩, (by first | exact HK.out.1 _ _ _ _ | exact (HK.out.1 _ _ _ _).trans (Ext.drew _))⟩
      simp [results, Tryz.results49, go_sem, r0, r1, s0, s1]
end Go.Proofs.YtfiembmfkokllaaGreat

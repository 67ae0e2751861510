/- Contracts: the draws of two codes, of a code and a word, of a code's text and of numbers. -/
import Derived.Test.YtgaeeibcfoppbaaGreatDoorDrwF
import Derived.Test.YtgaeeibcfoppbaaGreatDoorTextA
namespace Go.Proofs.YtgaeeibcfoppbaaGreatDoor
open Go.RowKit Go.Cm

set_option maxRecDepth 100000 in
set_option maxHeartbeats 2000000 in
theorem spec_DrawApplyCode_any (v : Value) (xs : List UInt8) (w : World) (h : ReadsB w v xs) :
    Calls Tryz.prog 8 #[v] w fun e w' => ∃ u s, e = .returned (.tuple #[u, .string s]) ∧ CodeV 1048577 u ∧ s.size ≤ 1000000 ∧ Ext w w' := by
  have hx0 := Ext.alloc w (.cells #[.int .i64 0, .int .i64 0, .string ⟨#[]⟩] 25)
  have br : Blk (w.alloc (.cells #[.int .i64 0, .int .i64 0, .string ⟨#[]⟩] 25)) w.heap.size #[.int .i64 0, .int .i64 0, .string ⟨#[]⟩] := by (repeat (first | (refine Blk.mk' ?_; (simp; done)) | apply Blk.old))
  have h0 : ReadsB (w.alloc (.cells #[.int .i64 0, .int .i64 0, .string ⟨#[]⟩] 25)) v xs := h.ext hx0
  clear h
  go_enter Tryz.func8, Tryz.ntmps8
  go_wp2_with fail
  with_reducible refine (spec_l11Case_any v xs _ h0).mono ?_
  rintro e w1 ⟨u, s, rfl, ⟨L, W, o, rfl, hos⟩, hss, hx⟩
  replace br := br.ext hx
  replace hx := hx0.trans hx
  have bx : Blk (w1.alloc (.cells #[.int .i64 L, .int .i64 W, .string o] 25)) w1.heap.size #[.int .i64 L, .int .i64 W, .string o] := by (repeat (first | (refine Blk.mk' ?_; (simp; done)) | apply Blk.old))
  replace br := br.old (o := .cells #[.int .i64 L, .int .i64 W, .string o] 25)
  replace hx := hx.trans (Ext.alloc w1 (.cells #[.int .i64 L, .int .i64 W, .string o] 25))
  obtain ⟨r0, r1, r2, f0, f1, f2⟩ := br.c3
  obtain ⟨b0, b1, b2, -, -, -⟩ := bx.c3
  clear h0 hx0
  go_wp2
  refine bodyPost_ret (v := .tuple #[.agg #[.int .i64 L, .int .i64 W, .string o], .string s]) ?_ rfl ⟨_, _, rfl, ⟨L, W, o, rfl, hos⟩, hss, ((hx.setCell (Nat.le_refl _) _).setCell (Nat.le_refl _) _).setCell (Nat.le_refl _) _⟩
  simp [results, Tryz.results8, go_sem, r0, r1, r2]
set_option maxRecDepth 100000 in
set_option maxHeartbeats 2000000 in
theorem spec_DrawApplyRing_any (v : Value) (xs : List UInt8) (w : World) (h : ReadsB w v xs) :
    Calls Tryz.prog 11 #[v] w fun e w' => ∃ u s, e = .returned (.tuple #[u, .string s]) ∧ CodeV 1048577 u ∧ s.size ≤ 1000000 ∧ Ext w w' := by
  have hx0 := Ext.alloc w (.cells #[.int .i64 0, .int .i64 0, .string ⟨#[]⟩] 25)
  have br : Blk (w.alloc (.cells #[.int .i64 0, .int .i64 0, .string ⟨#[]⟩] 25)) w.heap.size #[.int .i64 0, .int .i64 0, .string ⟨#[]⟩] := by (repeat (first | (refine Blk.mk' ?_; (simp; done)) | apply Blk.old))
  have h0 : ReadsB (w.alloc (.cells #[.int .i64 0, .int .i64 0, .string ⟨#[]⟩] 25)) v xs := h.ext hx0
  clear h
  go_enter Tryz.func11, Tryz.ntmps11
  go_wp2_with fail
  with_reducible refine (spec_l11Case_any v xs _ h0).mono ?_
  rintro e w1 ⟨u, s, rfl, ⟨L, W, o, rfl, hos⟩, hss, hx⟩
  replace br := br.ext hx
  replace hx := hx0.trans hx
  have bx : Blk (w1.alloc (.cells #[.int .i64 L, .int .i64 W, .string o] 25)) w1.heap.size #[.int .i64 L, .int .i64 W, .string o] := by (repeat (first | (refine Blk.mk' ?_; (simp; done)) | apply Blk.old))
  replace br := br.old (o := .cells #[.int .i64 L, .int .i64 W, .string o] 25)
  replace hx := hx.trans (Ext.alloc w1 (.cells #[.int .i64 L, .int .i64 W, .string o] 25))
  obtain ⟨r0, r1, r2, f0, f1, f2⟩ := br.c3
  obtain ⟨b0, b1, b2, -, -, -⟩ := bx.c3
  clear h0 hx0
  go_wp2
  refine bodyPost_ret (v := .tuple #[.agg #[.int .i64 L, .int .i64 W, .string o], .string s]) ?_ rfl ⟨_, _, rfl, ⟨L, W, o, rfl, hos⟩, hss, ((hx.setCell (Nat.le_refl _) _).setCell (Nat.le_refl _) _).setCell (Nat.le_refl _) _⟩
  simp [results, Tryz.results11, go_sem, r0, r1, r2]

set_option maxRecDepth 100000 in
set_option maxHeartbeats 2000000 in
theorem spec_DrawComposeCodes_any (v : Value) (xs : List UInt8) (w : World) (h : ReadsB w v xs) :
    Calls Tryz.prog 5 #[v] w fun e w' => ∃ u u', e = .returned (.tuple #[u, u']) ∧ CodeV 1048577 u ∧ CodeV 1048577 u' ∧ Ext w w' := by
  have hx0 := (Ext.alloc w (.cells #[.int .i64 0, .int .i64 0, .string ⟨#[]⟩] 25)).trans (Ext.alloc _ (.cells #[.int .i64 0, .int .i64 0, .string ⟨#[]⟩] 25))
  have br : Blk ((w.alloc (.cells #[.int .i64 0, .int .i64 0, .string ⟨#[]⟩] 25)).alloc (.cells #[.int .i64 0, .int .i64 0, .string ⟨#[]⟩] 25)) w.heap.size #[.int .i64 0, .int .i64 0, .string ⟨#[]⟩] := by (repeat (first | (refine Blk.mk' ?_; (simp; done)) | apply Blk.old))
  have bs : Blk ((w.alloc (.cells #[.int .i64 0, .int .i64 0, .string ⟨#[]⟩] 25)).alloc (.cells #[.int .i64 0, .int .i64 0, .string ⟨#[]⟩] 25)) (w.heap.size + 1) #[.int .i64 0, .int .i64 0, .string ⟨#[]⟩] := by (repeat (first | (refine Blk.mk' ?_; (simp; done)) | apply Blk.old))
  have h0 : ReadsB ((w.alloc (.cells #[.int .i64 0, .int .i64 0, .string ⟨#[]⟩] 25)).alloc (.cells #[.int .i64 0, .int .i64 0, .string ⟨#[]⟩] 25)) v xs := h.ext hx0
  clear h
  go_enter Tryz.func5, Tryz.ntmps5
  go_wp2_with fail
  with_reducible refine (spec_l11Two_any v xs _ h0).mono ?_
  rintro e w1 ⟨_, _, rfl, ⟨L, W, o, rfl, hos⟩, ⟨M, V, q, rfl, hq⟩, hx⟩
  replace br := br.ext hx
  replace bs := bs.ext hx
  have hsX := bs.lt
  replace hx := hx0.trans hx
  have hx1 := (Ext.alloc w1 (.cells #[.int .i64 L, .int .i64 W, .string o] 25)).trans (Ext.alloc _ (.cells #[.int .i64 M, .int .i64 V, .string q] 25))
  have bx : Blk ((w1.alloc (.cells #[.int .i64 L, .int .i64 W, .string o] 25)).alloc (.cells #[.int .i64 M, .int .i64 V, .string q] 25)) w1.heap.size #[.int .i64 L, .int .i64 W, .string o] := by (repeat (first | (refine Blk.mk' ?_; (simp; done)) | apply Blk.old))
  have by' : Blk ((w1.alloc (.cells #[.int .i64 L, .int .i64 W, .string o] 25)).alloc (.cells #[.int .i64 M, .int .i64 V, .string q] 25)) (w1.heap.size + 1) #[.int .i64 M, .int .i64 V, .string q] := by (repeat (first | (refine Blk.mk' ?_; (simp; done)) | apply Blk.old))
  replace br := br.ext hx1
  replace bs := bs.ext hx1
  replace hx := hx.trans hx1
  clear hx0 hx1 h0
  obtain ⟨r0, r1, r2, f0, f1, f2⟩ := br.c3
  obtain ⟨s0, s1, s2, t0, t1, t2⟩ := bs.c3
  obtain ⟨b0, b1, b2, -, -, -⟩ := bx.c3
  obtain ⟨c0, c1, c2, -, -, -⟩ := by'.c3
  clear br bs bx by'
  have hxx := fun (u0 u1 u2 v0 v1 v2 : Value) => (((((((hx.setCell (p := ⟨w.heap.size, 0, none⟩) (Nat.le_refl _) u0).setCell (p := ⟨w.heap.size, 1, none⟩) (Nat.le_refl _) u1).setCell (p := ⟨w.heap.size, 2, none⟩) (Nat.le_refl _) u2).setCell (p := ⟨w.heap.size + 1, 0, none⟩) (Nat.le_succ _) v0).setCell (p := ⟨w.heap.size + 1, 1, none⟩) (Nat.le_succ _) v1).setCell (p := ⟨w.heap.size + 1, 2, none⟩) (Nat.le_succ _) v2)).trans (Ext.drew _)
  go_wp2
  go_region
  go_wp2
  refine bodyPost_ret (v := .tuple #[.agg #[.int .i64 L, .int .i64 W, .string o], .agg #[.int .i64 M, .int .i64 V, .string q]]) ?_ rfl ⟨_, _, rfl, ⟨_, _, _, rfl, hos⟩, ⟨_, _, _, rfl, hq⟩, ?_⟩
  · simp [results, Tryz.results5, go_sem, r0, r1, r2, s0, s1, s2]
  · exact hxx _ _ _ _ _ _

set_option maxRecDepth 100000 in
theorem spec_DrawCopyCode_any (v : Value) (xs : List UInt8) (w : World) (h : ReadsB w v xs) :
    Calls Tryz.prog 17 #[v] w fun e w' => ∃ x y t, e = .returned (.tuple #[.int .i64 x, .int .i64 y, .int .i64 t]) ∧ Ext w w' := by
  have ho := OldB.start h
  clear h
  go_enter Tryz.func17, Tryz.ntmps17
  go_wp2_with fail
  with_reducible refine ho.new.mono ?_
  rintro e w1 ⟨z, rfl, hz, c, hx⟩
  go_wp2_with fail
  with_reducible refine (spec_l1Below_any _ z _ _ c).mono ?_
  rintro e w2 ⟨a, rfl, ha, -, hd⟩
  have ha : a < 4 := by have := ha (by omega); omega
  go_wp2_with fail
  with_reducible refine (spec_l1Below_any _ z _ _ hd.cur).mono ?_
  rintro e w3 ⟨b, rfl, hb, -, hd2⟩
  have hb : b < 6 := by have := hb (by omega); omega
  replace hd := hd.trans hd2
  clear hd2
  go_wp2_with fail
  with_reducible refine (spec_l1Below_any _ z _ _ hd.cur).mono ?_
  rintro e w4 ⟨q, rfl, hq, -, hd2⟩
  have hq : q < 5 := by have := hq (by omega); omega
  replace hd := hd.trans hd2
  clear hd2
  replace hx := hd.toExt hx hz
  go_wp2
  refine bodyPost_ret (v := .tuple #[.int .i64 (1 + (a : Int)), .int .i64 b, .int .i64 ((q : Int) - 1)]) ?_ rfl ⟨_, _, _, rfl, hx⟩
  simp [results, Tryz.results17, go_sem]

theorem codeText_some (L W : Int) (o : ByteArray) (w : World) (ho : o.size ≤ maxLen) :
    Calls Tryz.prog 24 #[.agg #[.int .i64 L, .int .i64 W, .string o]] w fun e w' => ∃ t, e = .returned (.string t) ∧ t.size ≤ 100 ∧ Ext w w' := by
  cases h : codeOk L W o with
  | false =>
    refine (spec_CodeText_no L W o w ho h).mono ?_
    rintro e w' ⟨rfl, hx⟩
    exact ⟨_, rfl, by show 0 ≤ 100; omega, hx⟩
  | true =>
    have h0 := h
    obtain ⟨K, n, rfl, rfl, hf⟩ := codeFit_of h
    have hk2 := hf.k2
    have hk3 := hf.k3
    have hn1 := hf.n1
    have hn4 := hf.n4
    have hos : o.size ≤ 27 := by have := hf.size; have := hf.le; omega
    refine (spec_CodeText_yes K n o w h0 (by omega) (by omega) hn1 (by omega) hos).mono ?_
    rintro e w' ⟨rfl, hx⟩
    refine ⟨_, rfl, ?_, hx⟩
    unfold codeT
    simp only [ByteArray.size_append, digS_size]
    have : (⟨#[32]⟩ : ByteArray).size = 1 := rfl
    omega

set_option maxRecDepth 100000 in
set_option maxHeartbeats 1000000 in
theorem spec_DrawParseCode_any (v : Value) (xs : List UInt8) (w : World) (h : ReadsB w v xs) :
    Calls Tryz.prog 14 #[v] w fun e w' => ∃ s, e = .returned (.string s) ∧ s.size ≤ 1000 ∧ Ext w w' := by
  have ho := OldB.start h
  clear h
  go_enter Tryz.func14, Tryz.ntmps14
  go_wp2_with fail
  with_reducible refine ho.new.mono ?_
  rintro e w1 ⟨z, rfl, hz, c, hx⟩
  go_wp2_with fail
  with_reducible refine (spec_l11Draw_any _ z _ c).mono ?_
  rintro e w2 ⟨u, rfl, ⟨L, W, o, rfl, hos⟩, hd⟩
  go_wp2_with fail
  with_reducible refine (codeText_some L W o _ (by unfold maxLen; omega)).mono ?_
  rintro e w3 ⟨t, rfl, hts, hy⟩
  replace hd := hd.ext hy
  clear hy
  go_wp2_with fail
  with_reducible refine (turned_lit (n := 5) (cs := #[.string ⟨#[32]⟩, .string ⟨#[97]⟩, .string ⟨#[50]⟩, .string ⟨#[49]⟩, .string ⟨#[98]⟩]) t hd.cur (l := [⟨#[32]⟩, ⟨#[97]⟩, ⟨#[50]⟩, ⟨#[49]⟩, ⟨#[98]⟩]) rfl (by omega) rfl (by omega) rfl (by omega)).mono ?_
  rintro e w4 ⟨s, rfl, hs, hd2⟩
  replace hd := hd.trans hd2
  clear hd2
  replace hx := hd.toExt hx hz
  go_wp2
  go_ret
  exact ⟨_, rfl, by omega, hx⟩
end Go.Proofs.YtgaeeibcfoppbaaGreatDoor
